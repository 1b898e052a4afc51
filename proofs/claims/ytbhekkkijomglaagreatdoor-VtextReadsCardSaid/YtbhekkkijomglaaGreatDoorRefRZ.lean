/- Put together: RefR, RefS. -/
import Derived.Test.YtbhekkkijomglaaGreatDoorRefJZ
import Derived.Test.YtbhekkkijomglaaGreatDoorNumZ
import Derived.Test.YtbhekkkijomglaaGreatDoorLexW1
namespace Go.Proofs.YtbhekkkijomglaaGreatDoor
/-! The walk of the reference's Read (a natural's decimal numeral). -/
section
open Go.RowKit

/-- The error, and the number. -/
def read4 (l : List UInt8) : Nat × Nat :=
  if l = [] then (4, 0) else if l.all digB = false then (3, 0) else if l.head? = some 48 ∧ 1 < l.length then (3, 0) else (0, decVal 0 l)
/-- What it returns. -/
def Read4 (w : World) (x : Nat × Nat) (e : Ending) (w' : World) : Prop :=
  ∃ A c, e = .returned (.tuple #[.slice A (dgs (65536 ^ 4) x.2).length c, .int .i64 x.1]) ∧ Nsl w' A (dgs (65536 ^ 4) x.2) ∧ Below w.heap.size w w'
theorem Read4.err (w : World) (n : Nat) : Read4 w (n, 0) (.returned (.tuple #[.slice none 0 0, .int .i64 n])) w :=
  ⟨none, 0, by rw [show dgs (65536 ^ 4) (n, 0).2 = [] from dgs_zero _]; rfl, by rw [show dgs (65536 ^ 4) (n, 0).2 = [] from dgs_zero _]; exact Nsl.nil _ _, Below.refl _ _⟩
theorem set_mid (pre rest : List Nat) (x z : Nat) : (uCells (pre ++ x :: rest)).set pre.length (.int .u64 (z : Nat)) = uCells ((pre ++ [z]) ++ rest) := by
  rw [uCells_append, List.set_append_right _ _ (by rw [uCells_length]; exact Nat.le_refl _), uCells_length, Nat.sub_self, List.append_assoc, uCells_append]
  rfl
theorem dig_byte (b : UInt8) (h : digB b = true) : 48 ≤ (b.toNat : Int) ∧ (b.toNat : Int) ≤ 57 := by
  have := (dig_iff b).1 h
  omega
theorem data_get (s : ByteArray) (k : Nat) (h : k < s.size) : s.data.toList[k]? = some s[k] := by
  rw [List.getElem?_eq_getElem (by simpa using h)]; rfl

set_option maxRecDepth 100000 in
set_option maxHeartbeats 2000000 in
theorem read4_bad (s : ByteArray) (w : World) (hs : s.size ≤ 20000) (h : (read4 s.data.toList).1 ≠ 0) :
    Calls Tryz.prog 103 #[.string s] w (Read4 w (read4 s.data.toList)) := by
  have hl : s.data.toList.length = s.size := by simp
  obtain ⟨P, hP⟩ : ∃ P, P = Read4 w (read4 s.data.toList) := ⟨_, rfl⟩
  rw [← hP]
  by_cases h0 : s.data.toList = []
  · have hr : read4 s.data.toList = (4, 0) := by rw [read4, if_pos h0]
    have hz : s.size = 0 := by rw [← hl, h0]; rfl
    have HE := Lib.hid (hP.trans (congrArg (Read4 w) hr))
    clear hP hr h h0 hl
    have hz1 : ((s.size : Int) == 0) = true := beq_iff_eq.2 (by omega)
    clear hz
    go_enter Tryz.func103, Tryz.ntmps103
    go_wp2_with fail
    rw [HE.out]
    exact Read4.err w 4
  · have hpos : 0 < s.size := by
      rcases Nat.eq_zero_or_pos s.size with hz | hz
      · exact absurd (List.length_eq_zero_iff.1 (by rw [hl]; exact hz)) h0
      · exact hz
    have hz1 : ((s.size : Int) == 0) = false := beq_eq_false_iff_ne.2 (by omega)
    by_cases hall : s.data.toList.all digB = false
    · have hr : read4 s.data.toList = (3, 0) := by rw [read4, if_neg h0, if_pos hall]
      have HE := Lib.hid (hP.trans (congrArg (Read4 w) hr))
      have HALL := Lib.hid hall
      clear hP hr h h0 hl hall
      go_enter Tryz.func103, Tryz.ntmps103
      go_wp2_with fail
      go_loop [4] (fun i => ∃ k : Nat, k ≤ s.size ∧ i = .int .i64 k ∧ Hid ((s.data.toList.take k).all digB = true)) (fun i => s.size - (intOf i).toNat)
      case atStart => exact ⟨0, Nat.zero_le _, rfl, rfl⟩
      case round =>
        obtain ⟨k, hk, rfl, HA⟩ := hrel
        by_cases hlt : k < s.size
        · by_cases hd : digB s[k] = true
          · obtain ⟨d1, d2⟩ := dig_byte _ hd
            go_wp2_with fail
            go_round
            case rel => exact ⟨k + 1, by omega, by go_num, all_take_succ digB s k hlt HA.out hd⟩
            case measure => simp [intOf] <;> omega
          · have hd2 : digB s[k] = false := by simpa using hd
            have hd3 : (s[k].toNat : Int) < 48 ∨ 57 < (s[k].toNat : Int) := by
              have h9 : ¬ (48 ≤ s[k].toNat ∧ s[k].toNat ≤ 57) := fun e => hd ((dig_iff _).2 e)
              omega
            rcases hd3 with hd3 | hd3
            all_goals
              go_wp2_with fail
              rw [HE.out]
              exact Read4.err w 3
        · exfalso
          obtain rfl : k = s.size := by omega
          have := all_done digB s HA.out
          rw [HALL.out] at this
          cases this
    · have hall2 : s.data.toList.all digB = true := by simpa using hall
      have hlz : s.data.toList.head? = some 48 ∧ 1 < s.data.toList.length := by
        rcases Classical.em (s.data.toList.head? = some 48 ∧ 1 < s.data.toList.length) with h1 | h1
        · exact h1
        · exfalso
          apply h
          rw [read4, if_neg h0, if_neg hall, if_neg h1]
      have hr : read4 s.data.toList = (3, 0) := by rw [read4, if_neg h0, if_neg hall, if_pos hlz]
      have HE := Lib.hid (hP.trans (congrArg (Read4 w) hr))
      have hD : ∀ k, (hk : k < s.size) → digB s[k] = true := fun k hk => List.all_eq_true.1 hall2 _ (List.mem_of_getElem? (data_get s k hk))
      have HD := Lib.hid hD
      have h48 : ((s[0].toNat : Int) == 48) = true := by
        have h1 := hlz.1
        rw [List.head?_eq_getElem?, data_get s 0 hpos] at h1
        rw [Option.some.inj h1]
        rfl
      have hl1 : (1 : Int) < (s.size : Int) := by have := hlz.2; omega
      clear hP hr h h0 hl hall hall2 hD hlz
      go_enter Tryz.func103, Tryz.ntmps103
      go_wp2_with fail
      go_loop [4] (fun i => ∃ k : Nat, k ≤ s.size ∧ i = .int .i64 k) (fun i => s.size - (intOf i).toNat)
      case atStart => exact ⟨0, Nat.zero_le _, rfl⟩
      case round =>
        obtain ⟨k, hk, rfl⟩ := hrel
        by_cases hlt : k < s.size
        · obtain ⟨d1, d2⟩ := dig_byte _ (HD.out k hlt)
          go_wp2_with fail
          go_round
          case rel => exact ⟨k + 1, by omega, by go_num⟩
          case measure => simp [intOf] <;> omega
        · obtain rfl : k = s.size := by omega
          go_wp2_with fail
          rw [HE.out]
          exact Read4.err w 3
end

/-! The walk of the reference's Read, where the numeral is right. -/
section
open Go.RowKit

theorem tenGo_nil (c : Nat) : tenGo 65536 c [] = if 0 < c then [c] else [] := rfl
theorem tenGo_cons (c x : Nat) (r : List Nat) : tenGo 65536 c (x :: r) = ((x * 10 + c) % 65536) :: tenGo 65536 ((x * 10 + c) / 65536) r := rfl
theorem u_at (pre rest : List Nat) (x : Nat) : (uCells (pre ++ x :: rest))[pre.length]? = some (.int .u64 (x : Nat)) := by
  rw [uCells_append, List.getElem?_append_right (by rw [uCells_length]; exact Nat.le_refl _), uCells_length, Nat.sub_self]
  rfl

set_option maxRecDepth 100000 in
set_option maxHeartbeats 3000000 in
theorem read4_good (s : ByteArray) (w : World) (hs : s.size ≤ 20000) (h : (read4 s.data.toList).1 = 0) :
    Calls Tryz.prog 103 #[.string s] w (Read4 w (read4 s.data.toList)) := by
  have hl : s.data.toList.length = s.size := by simp
  obtain ⟨P, hP⟩ : ∃ P, P = Read4 w (read4 s.data.toList) := ⟨_, rfl⟩
  rw [← hP]
  have h0 : ¬ s.data.toList = [] := fun e => by rw [read4, if_pos e] at h; exact absurd h (by decide)
  have hall : ¬ s.data.toList.all digB = false := fun e => by rw [read4, if_neg h0, if_pos e] at h; exact absurd h (by decide)
  have hlz : ¬ (s.data.toList.head? = some 48 ∧ 1 < s.data.toList.length) := fun e => by rw [read4, if_neg h0, if_neg hall, if_pos e] at h; exact absurd h (by decide)
  have hr : read4 s.data.toList = (0, decVal 0 s.data.toList) := by rw [read4, if_neg h0, if_neg hall, if_neg hlz]
  have HE := Lib.hid (hP.trans (congrArg (Read4 w) hr))
  have hall2 : s.data.toList.all digB = true := by simpa using hall
  have hD : ∀ k, (hk : k < s.size) → digB s[k] = true := fun k hk => List.all_eq_true.1 hall2 _ (List.mem_of_getElem? (data_get s k hk))
  have HD := Lib.hid hD
  have hpos : 0 < s.size := by
    rcases Nat.eq_zero_or_pos s.size with hz | hz
    · exact absurd (List.length_eq_zero_iff.1 (by rw [hl]; exact hz)) h0
    · exact hz
  have hz1 : ((s.size : Int) == 0) = false := beq_eq_false_iff_ne.2 (by omega)
  have hlead : ((s[0].toNat : Int) == 48) = false ∨ (((s[0].toNat : Int) == 48) = true ∧ ¬ (1 : Int) < (s.size : Int)) := by
    by_cases hb : s[0] = 48
    · refine .inr ⟨by rw [hb]; rfl, fun h1 => hlz ⟨?_, by omega⟩⟩
      rw [List.head?_eq_getElem?, data_get s 0 hpos, hb]
    · exact .inl (beq_eq_false_iff_ne.2 fun e => hb (UInt8.toNat_inj.1 (by simpa using (by omega : s[0].toNat = 48))))
  have hstep : ∀ k, (hk : k < s.size) → ∃ c : Nat, c ≤ 9 ∧ (s[k].toNat : Int) - 48 = (c : Int) ∧ decVal 0 (s.data.toList.take (k + 1)) = decVal 0 (s.data.toList.take k) * 10 + c := by
    intro k hk
    have hd := (dig_iff _).1 (hD k hk)
    refine ⟨s[k].toNat - 48, by omega, by omega, ?_⟩
    rw [data_take_succ s k hk, decVal_snoc]
  have HST := Lib.hid hstep
  have HFIN : Hid (s.data.toList.take s.size = s.data.toList) := List.take_of_length_le (by rw [hl]; exact Nat.le_refl _)
  have HBEG : Hid (dv 65536 [] = decVal 0 (s.data.toList.take 0)) := rfl
  clear hP hr h h0 hl hall hall2 hD hlz hstep
  obtain ⟨i0, hi, hz0, hz2, hz3⟩ := info_parts (P := Tryz.prog) (e := 130) (z := .int .u64 0) (size := 1) (bytes := 8) (by kernel_rfl)
  have HU : Tryz.prog.underlying 101 = some (.slice 130) := by kernel_rfl
  have HI := Lib.hid (And.intro hi (And.intro hz0 (And.intro hz2 (And.intro hz3 HU))))
  clear hi hz0 hz2 hz3 HU
  go_enter Tryz.func103, Tryz.ntmps103
  go_wp2_with fail
  go_loop [4] (fun i => ∃ k : Nat, k ≤ s.size ∧ i = .int .i64 k) (fun i => s.size - (intOf i).toNat)
  case atStart => exact ⟨0, Nat.zero_le _, rfl⟩
  case round =>
    obtain ⟨k, hk, rfl⟩ := hrel
    by_cases hlt : k < s.size
    · obtain ⟨d1, d2⟩ := dig_byte _ (HD.out k hlt)
      go_wp2_with fail
      go_round
      case rel => exact ⟨k + 1, by omega, by go_num⟩
      case measure => simp [intOf] <;> omega
    · obtain rfl : k = s.size := by omega
      rcases hlead with hl1 | ⟨hl1, hl2⟩
      all_goals
        go_wp2_with fail
        go_loopw [5, 6] (fun v i wr => ∃ (k : Nat) (ds : List Nat), i = .int .i64 k ∧ k ≤ s.size ∧ ds.length ≤ k ∧ wr.ownsRow w.heap.size 130 1 v ds.length (uCells ds) ∧ Below w.heap.size w wr ∧ Hid (∀ x ∈ ds, x < 65536) ∧ Hid (dv 65536 ds = decVal 0 (s.data.toList.take k))) (fun _ i _ => s.size - (intOf i).toNat)
        case atStart => exact ⟨0, [], rfl, Nat.zero_le _, Nat.le_refl _, World.ownsRow_nil _ _ _ _, Below.refl _ _, (fun x hx => by simp at hx), HBEG.out⟩
        case round =>
          obtain ⟨k, ds, rfl, hk, hdl, hown, hbw, HLT, HV⟩ := hrel
          by_cases hlt : k < s.size
          · obtain ⟨c0, hc0, hc1, hc2⟩ := HST.out k hlt
            obtain ⟨d1, d2⟩ := dig_byte _ (HD.out k hlt)
            have hnew : dv 65536 (tenGo 65536 c0 ds) = decVal 0 (s.data.toList.take (k + 1)) := by rw [tenGo_dv (by decide), HV.out, hc2]
            have hnlt : ∀ x ∈ tenGo 65536 c0 ds, x < 65536 := tenGo_lt (by decide) ds c0 (by omega) HLT.out
            have HNEW := Lib.hid hnew
            have HNLT := Lib.hid hnlt
            clear hc2 hnew hnlt HV
            rcases (by cases ds <;> simp : ds = [] ∨ ds ≠ []) with hds | hds
            · subst hds
              obtain ⟨A, c, rfl, _, _⟩ := own_nsl hown
              go_wp2_with fail
              go_loopw [7, 8] (fun x t ws => x = .int .u64 (c0 : Nat) ∧ t = .int .i64 0 ∧ ws = wr) (fun _ _ _ => 0)
              case atStart => exact ⟨rfl, rfl, rfl⟩
              case round =>
                obtain ⟨rfl, rfl, rfl⟩ := hrel
                rcases Nat.eq_zero_or_pos c0 with hz | hz
                · subst hz
                  go_wp2_with fail
                  go_roundw
                  case rel => exact ⟨k + 1, [], by go_num, by omega, by simp, hown, hbw, HNLT.out, HNEW.out⟩
                  case measure => simp [intOf] <;> omega
                · have hz' : (0 : Int) < (c0 : Int) := by omega
                  have HT : Hid (tenGo 65536 c0 [] = [] ++ [c0]) := by show _ = _; rw [tenGo_nil, if_pos hz]; rfl
                  go_wp2_with (first
                    | (at_builtin; refine wpList_append_own _ rfl _ _ 101 rfl w.heap.size 130 i0 (.int .u64 0) 1 8 HI.out.2.2.2.2 HI.out.1 HI.out.2.1 HI.out.2.2.1 HI.out.2.2.2.1 rfl (by decide) _ _ _ rfl (hown.alloc _) ⟨wr.heap.size, 0, none⟩ 1 1 [.int .u64 (c0 : Nat)] rfl rfl ?_ ?_ ?_ ?_ ?_ ?_
                       · exact one_new _ _ _
                       · intro u hu; simp at hu; subst hu; rfl
                       · unfold maxLen; omega
                       · omega
                       · have := hbw.size; simp at this ⊢; omega
                       intro v' w3 hown' hgrow3 _
                       have hal := hown.alloc (.cells #[.int .u64 (c0 : Nat)] 130)
                       have hbw3 := Below.grown (hbw.alloc hbw.size (.cells #[.int .u64 (c0 : Nat)] 130)) hgrow3 (Nat.le_trans hbw.size (by simp)) (fun j hj => (hal.lt _ hj).1)
                       have X := Lib.hid (And.intro hown' hbw3)
                       clear hown' hbw3 hgrow3 hal))
                  go_roundw
                  case rel => exact ⟨k + 1, [] ++ [c0], by go_num, by omega, by simp, by rw [uCells_append]; exact X.out.1, X.out.2, by rw [← HT.out]; exact HNLT.out, by rw [← HT.out]; exact HNEW.out⟩
                  case measure => simp [intOf] <;> omega
            · have hdp : 0 < ds.length := by
                rcases Nat.eq_zero_or_pos ds.length with h1 | h1
                · exact absurd (List.length_eq_zero_iff.1 h1) hds
                · exact h1
              try (exfalso; omega)
              all_goals
                obtain ⟨g, cap, rfl, hg⟩ := hown.form hdp
                have hgB : w.heap.size ≤ g := by omega
                have H0 : Hid (tenGo 65536 c0 ds = [] ++ tenGo 65536 c0 (ds.drop 0) ∧ uCells ([] ++ ds.drop 0) = uCells ds) := ⟨by simp, by simp⟩
                obtain ⟨wo, rfl⟩ : ∃ wo : World, wo = wr := ⟨_, rfl⟩
                go_wp2_with fail
                go_loopw [7, 8] (fun x t ws => ∃ (j cc : Nat) (pre : List Nat), t = .int .i64 j ∧ j ≤ ds.length ∧ x = .int .u64 (cc : Nat) ∧ cc ≤ 65535 ∧ pre.length = j ∧ ws.ownsRow w.heap.size 130 1 (.slice (some ⟨g, 0, none⟩) ds.length cap) ds.length (uCells (pre ++ ds.drop j)) ∧ Below w.heap.size w ws ∧ Hid (tenGo 65536 c0 ds = pre ++ tenGo 65536 cc (ds.drop j))) (fun _ t _ => ds.length - (intOf t).toNat)
                case atStart => exact ⟨0, c0, [], rfl, Nat.zero_le _, rfl, by omega, rfl, by rw [H0.out.2]; exact hown, hbw, H0.out.1⟩
                case round =>
                  obtain ⟨j, cc, pre, rfl, hj, rfl, hcc, hpre, hown2, hbw2, HT⟩ := hrel
                  have HPRE := Lib.hid hpre; clear hpre
                  by_cases hjl : j < ds.length
                  · obtain ⟨x, hx⟩ : ∃ x, ds[j]? = some x := ⟨ds[j], List.getElem?_eq_getElem hjl⟩
                    have hdrop : ds.drop j = x :: ds.drop (j + 1) := by
                      rw [List.drop_eq_getElem_cons hjl]
                      rw [List.getElem?_eq_getElem hjl] at hx
                      rw [Option.some.inj hx]
                    have hx6 := HLT.out x (List.mem_of_getElem? hx)
                    rw [hdrop] at hown2
                    have hat := u_at pre (ds.drop (j + 1)) x
                    rw [HPRE.out] at hat
                    have c1 := (hown2.cellAt j (by omega)).trans hat
                    have f1 := hown2.frozenAt j
                    have hst := (hown2.stored j (.int .u64 (((x * 10 + cc) % 65536 : Nat) : Int))).1
                    have hset := set_mid pre (ds.drop (j + 1)) x ((x * 10 + cc) % 65536)
                    rw [HPRE.out] at hset
                    rw [hset] at hst
                    have hnext : tenGo 65536 c0 ds = (pre ++ [(x * 10 + cc) % 65536]) ++ tenGo 65536 ((x * 10 + cc) / 65536) (ds.drop (j + 1)) := by
                      rw [HT.out, hdrop, tenGo_cons, List.append_assoc]; rfl
                    have hmod : ((x : Int) * 10 + (cc : Int)) % 65536 = (((x * 10 + cc) % 65536 : Nat) : Int) := by omega
                    have hdiv : ((x : Int) * 10 + (cc : Int)) / 65536 = (((x * 10 + cc) / 65536 : Nat) : Int) := by omega
                    have hcb : (x * 10 + cc) / 65536 ≤ 65535 := by omega
                    rw [← hmod] at hst
                    have HMOD := Lib.hid hmod
                    have HDIV := Lib.hid hdiv
                    have HSTT := Lib.hid hst
                    have HNXT := Lib.hid hnext
                    have HBW2 := Lib.hid hbw2
                    have HCB := Lib.hid hcb
                    clear hmod hdiv hst hnext hset hat hown2 hdrop hx hbw2 hcb HT
                    have j0 : (0 : Int) ≤ (j : Int) := by omega
                    have j1 : (j : Int) < (ds.length : Int) := by omega
                    go_wp2_with fail
                    go_roundw
                    case rel => exact ⟨j + 1, (x * 10 + cc) / 65536, pre ++ [(x * 10 + cc) % 65536], by go_num, by omega, by rw [← HDIV.out], HCB.out, by rw [List.length_append, List.length_singleton, HPRE.out], HSTT.out, HBW2.out.setCell (p := ⟨g, _, none⟩) hgB _, HNXT.out⟩
                    case measure => simp [intOf] <;> omega
                  · obtain rfl : j = ds.length := by omega
                    have hfin := HT.out
                    rw [List.drop_length, tenGo_nil] at hfin
                    rw [List.drop_length, List.append_nil] at hown2
                    rcases Nat.eq_zero_or_pos cc with hz | hz
                    · subst hz
                      rw [if_neg (Nat.lt_irrefl 0), List.append_nil] at hfin
                      have HF := Lib.hid hfin
                      clear hfin HT
                      go_wp2_with fail
                      go_roundw
                      case rel => exact ⟨k + 1, pre, by go_num, by omega, by rw [HPRE.out]; omega, by rw [HPRE.out]; exact hown2, hbw2, by rw [← HF.out]; exact HNLT.out, by rw [← HF.out]; exact HNEW.out⟩
                      case measure => simp [intOf] <;> omega
                    · have hz' : (0 : Int) < (cc : Int) := by omega
                      rw [if_pos hz] at hfin
                      have HF := Lib.hid hfin
                      clear hfin HT
                      go_wp2_with (first
                        | (at_builtin; refine wpList_append_own _ rfl _ _ 101 rfl w.heap.size 130 i0 (.int .u64 0) 1 8 HI.out.2.2.2.2 HI.out.1 HI.out.2.1 HI.out.2.2.1 HI.out.2.2.2.1 rfl (by decide) _ _ _ rfl (hown2.alloc _) ⟨wr.heap.size, 0, none⟩ 1 1 [.int .u64 (cc : Nat)] rfl rfl ?_ ?_ ?_ ?_ ?_ ?_
                           · exact one_new _ _ _
                           · intro u hu; simp at hu; subst hu; rfl
                           · unfold maxLen; omega
                           · omega
                           · have := hbw2.size; simp at this ⊢; omega
                           intro v' w3 hown' hgrow3 _
                           have hal := hown2.alloc (.cells #[.int .u64 (cc : Nat)] 130)
                           have hbw3 := Below.grown (hbw2.alloc hbw2.size (.cells #[.int .u64 (cc : Nat)] 130)) hgrow3 (Nat.le_trans hbw2.size (by simp)) (fun j hj => (hal.lt _ hj).1)
                           have X := Lib.hid (And.intro hown' hbw3)
                           clear hown' hbw3 hgrow3 hal))
                      go_roundw
                      case rel => exact ⟨k + 1, pre ++ [cc], by go_num, by omega, by rw [List.length_append, List.length_singleton, HPRE.out]; omega, by rw [List.length_append, List.length_singleton, HPRE.out, uCells_append]; exact X.out.1, X.out.2, by rw [← HF.out]; exact HNLT.out, by rw [← HF.out]; exact HNEW.out⟩
                      case measure => simp [intOf] <;> omega
          · obtain rfl : k = s.size := by omega
            obtain ⟨A, c, rfl, hA, hcap⟩ := own_nsl hown
            have hv := HV.out
            rw [HFIN.out] at hv
            have JJ := fun W h => njoin_any ds A c W (by omega) hcap h HLT.out
            rw [hv] at JJ
            have HJ := Lib.hid JJ
            clear JJ hv HV hown
            go_wp2_with fail
            refine (HJ.out _ hA).mono ?_
            rintro e w2 ⟨v2, rfl, hown2, hb2⟩
            obtain ⟨B, d, rfl, hB, _⟩ := own_nsl hown2
            clear hown2
            have hx := hbw.trans (hb2.mono hbw.size)
            go_wp2_with fail
            rw [HE.out]
            exact ⟨B, d, rfl, hB, hx⟩
end
end Go.Proofs.YtbhekkkijomglaaGreatDoor
