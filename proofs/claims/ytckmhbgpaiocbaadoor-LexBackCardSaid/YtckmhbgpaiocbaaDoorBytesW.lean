/- The walk of LexBytes. -/
import Derived.Test.YtckmhbgpaiocbaaDoorOneW
import Derived.Test.YtckmhbgpaiocbaaDoorLexQ
namespace Go.Proofs.YtckmhbgpaiocbaaDoor
open Go.RowKit

theorem byte_at (s : ByteArray) (j : Nat) (h : j < s.size) : s.data.toList[j]? = some s[j] := by
  rw [List.getElem?_eq_getElem (by simpa using h)]; rfl
theorem blank_cases {b : UInt8} (h : blankB b = true) : ((b.toNat : Int) != 32) = false ∨ (((b.toNat : Int) != 32) = true ∧ ((b.toNat : Int) != 10) = false) := by
  unfold blankB at h
  simp only [Bool.or_eq_true, beq_iff_eq] at h
  rcases h with rfl | rfl
  · exact .inl (by decide)
  · exact .inr ⟨by decide, by decide⟩

set_option maxRecDepth 100000 in
set_option maxHeartbeats 1600000 in
theorem bytes_any (s : ByteArray) (w : World) (hv : Env w) (hmax : s.size ≤ maxLen) :
    Calls Tryd.prog 9 #[.string s] w fun e w' => e = .returned (.bool true) ∧ Below w.heap.size w w' := by
  unfold maxLen at hmax
  by_cases h20 : 20000 < s.size
  · go_enter Tryd.func9, Tryd.ntmps9
    go_wp2_with fail
    refine (awake_any _ hv).mono ?_
    rintro e w1 ⟨rfl, hb⟩
    go_wp2_with fail
    go_ret
    exact ⟨rfl, hb⟩
  · go_enter Tryd.func9, Tryd.ntmps9
    go_wp2_with fail
    refine (awake_any _ hv).mono ?_
    rintro e w1 ⟨rfl, hb1⟩
    go_wp2_with fail
    refine (all_any s _ (by omega) (hv.step hb1)).mono ?_
    rintro e w2 ⟨v, rfl, hown, hb2⟩
    obtain ⟨A, c, rfl, hA⟩ := own_marks hown
    clear hown
    have hlen : s.data.toList.length = s.size := by simp
    have hmk : marks 0 (s.data.toList.drop 0) = lexAll s.data.toList := by rw [List.drop_zero, marks_lex _ (by omega)]
    have hno : (lexAll s.data.toList).2.2 ≠ 0 → (lexAll s.data.toList).1 = [] := by rw [← hmk]; exact marks_none
    have hyes : (lexAll s.data.toList).2.2 = 0 → (lexAll s.data.toList).2.1 = 0 := by rw [← hmk]; exact marks_ok
    have hbw := hb1.trans (hb2.mono hb1.size)
    clear hb1 hb2
    generalize lexAll s.data.toList = R at *
    obtain ⟨rm, rp, re⟩ := R
    simp only at hno hyes
    by_cases hre : re = 0
    · subst hre
      obtain rfl := hyes rfl
      have HL := Lib.hid hlen; clear hlen
      have HM := Lib.hid hmk; clear hmk hno hyes
      go_wp2_with fail
      go_loopw [6, 7] (fun a i wr => ∃ (k : Nat) (ms rest : List MarkT), a = .int .i64 k ∧ i = .int .i64 ms.length ∧ k ≤ s.size ∧ ms.length ≤ k ∧ rm = ms ++ rest ∧ Below w2.heap.size w2 wr ∧ Hid (marks k (s.data.toList.drop k) = (rest, 0, 0))) (fun _ i _ => rm.length + 1 - (intOf i).toNat)
      case atStart => exact ⟨0, [], rm, rfl, rfl, Nat.zero_le _, Nat.le_refl _, rfl, Below.refl _ _, HM.out⟩
      case round =>
        obtain ⟨k, ms, rest, rfl, rfl, hk, hml, hrm, hbw2, HS⟩ := hrel
        have hst := marks_step k (s.data.toList.drop k) rest HS.out
        clear HS HM
        rcases hst with ⟨rfl, hbl⟩ | ⟨m, rest', rfl, hstd, hbl, hnext⟩
        · rw [List.append_nil] at hrm
          subst hrm
          have hB : ∀ j, k ≤ j → (h : j < s.size) → blankB s[j] = true := fun j h1 h2 => hbl _ (List.mem_of_getElem? (i := j - k) (by rw [List.getElem?_drop, show k + (j - k) = j by omega, byte_at s j h2]))
          have HB := Lib.hid hB; clear hB hbl
          obtain ⟨wo, rfl⟩ : ∃ wo : World, wo = wr := ⟨_, rfl⟩
          go_wp2_with fail
          go_loop [6] (fun a => ∃ j : Nat, a = .int .i64 j ∧ k ≤ j ∧ j ≤ s.size) (fun a => s.size - (intOf a).toNat)
          case atStart => exact ⟨k, rfl, Nat.le_refl _, hk⟩
          case round =>
            obtain ⟨j, rfl, hj1, hj2⟩ := hrel
            by_cases hlt : j < s.size
            · rcases blank_cases (HB.out j hj1 hlt) with hc | ⟨hc1, hc2⟩
              all_goals
                go_wp2_with fail
                go_round
                case rel => exact ⟨j + 1, by go_num, by omega, by omega⟩
                case measure => simp [intOf]; omega
            · obtain rfl : j = s.size := by omega
              go_wp2_with fail
              go_ret
              exact ⟨rfl, hbw.trans (hbw2.mono hbw.size)⟩
        · obtain ⟨at1, at2, at3, hkind, hbytes, n0, n1, hsl⟩ := hstd
          obtain ⟨g, rfl, hg, hat⟩ := hA (by rw [hrm]; simp)
          have hget : (rm.map ofT)[ms.length]? = some (ofT m) := by rw [List.getElem?_map, hrm]; simp
          have hlt : ms.length < rm.length := by rw [hrm]; simp
          rw [List.length_drop, HL.out] at at3 hsl
          obtain ⟨kk, p, q, n, l⟩ := m
          simp only at at1 at2 at3 hkind hbytes n0 n1 hsl hbl hnext
          have hB : ∀ j, k ≤ j → j < p → (h : j < s.size) → blankB s[j] = true := fun j h1 h3 h2 => hbl _ (List.mem_of_getElem? (i := j - k) (by rw [List.getElem?_take, if_pos (by omega), List.getElem?_drop, show k + (j - k) = j by omega, byte_at s j h2]))
          have HB := Lib.hid hB; clear hB hbl
          rw [List.drop_drop, show k + (q - k) = q by omega] at hnext
          rw [List.drop_drop, show k + (p - k) = p by omega, ← bs_list ((s.data.toList.drop p).take (q - p)), ← bs_extract] at hbytes
          have hxs : (s.extract p q).size = q - p := by rw [bs_extract, bs_size, List.length_take, List.length_drop, HL.out]; omega
          have hSh : ∀ W, Env W → Calls Tryd.prog 19 #[.agg #[.int .u8 kk, .int .i64 p, .int .i64 q, .int .i64 n, .string (bs l)]] W fun e' w' => e' = .returned (.tuple #[.string (s.extract p q), .int .i64 0]) ∧ Below W.heap.size W w' := by
            intro W hW
            have h := show_any kk p q n l W (by omega) n0 n1 hW
            unfold ShowAt argMark showVal at h
            change markShow (ofT (kk, p, q, n, l)) = _ at hbytes
            change lexShow kk n l = _ at hbytes
            rw [hbytes, bs_of] at h
            exact h
          have HSh := Lib.hid hSh; clear hSh hbytes
          have HN := Lib.hid hnext; clear hnext
          have HRM := Lib.hid hrm; clear hrm
          have HGZ := Lib.hid hget; clear hget
          have hat3 := hat.below hbw2 (Nat.le_refl _)
          obtain ⟨c0, c1, c2, c3, c4⟩ := hat3.five HGZ.out
          simp only [ofT, Nat.zero_add] at c0 c1 c2 c3 c4
          have HXS := Lib.hid hxs; clear hxs
          have hle1 : decide (ms.length ≤ rm.length) = true := decide_eq_true (by omega)
          have hlt1 : decide (ms.length < rm.length) = true := decide_eq_true (by omega)
          have hlo : decide (p < k) = false := decide_eq_false (by omega)
          have hhi : decide (s.size < p) = false := decide_eq_false (by omega)
          obtain ⟨wo, rfl⟩ : ∃ wo : World, wo = wr := ⟨_, rfl⟩
          go_wp2_with fail
          go_loop [6] (fun a => ∃ j : Nat, a = .int .i64 j ∧ k ≤ j ∧ j ≤ p) (fun a => p - (intOf a).toNat)
          case atStart => exact ⟨k, rfl, Nat.le_refl _, at1⟩
          case round =>
            obtain ⟨j, rfl, hj1, hj2⟩ := hrel
            by_cases hlt : j < p
            · have hjs : j < s.size := by omega
              rcases blank_cases (HB.out j hj1 hlt hjs) with hc | ⟨hc1, hc2⟩
              all_goals
                go_wp2_with fail
                go_round
                case rel => exact ⟨j + 1, by go_num, by omega, by omega⟩
                case measure => simp [intOf]; omega
            · obtain rfl : j = p := by omega
              go_wp2_with fail
              refine (HSh.out _ (hv.step (hbw.trans (hbw2.mono hbw.size)))).mono ?_
              rintro e' w3 ⟨rfl, hb3⟩
              have hbw3 := hbw2.trans (hb3.mono hbw2.size)
              have hat4 := hat3.below hb3 (Nat.le_refl _)
              obtain ⟨d0, d1, d2, d3, d4⟩ := hat4.five HGZ.out
              simp only [ofT, Nat.zero_add] at d0 d1 d2 d3 d4
              have hq0 : (((min q s.size - j : Nat) : Int) == 0) = false := beq_eq_false_iff_ne.2 (by omega)
              have hq1 : ((q : Int) != (j : Int) + ((min q s.size - j : Nat) : Int)) = false := by rw [bne_eq_false_iff_eq]; omega
              have hq2 : min q s.size - j ≤ 20000 := by omega
              have hq3 : decide (s.size < q) = false := decide_eq_false (by omega)
              clear hat3 hat4
              go_wp2_with fail
              go_roundw
              case rel => exact ⟨q, ms ++ [(kk, j, q, n, l)], rest', rfl, by rw [List.length_append]; go_num, by omega, by rw [List.length_append, List.length_singleton]; omega, by rw [List.append_assoc]; exact HRM.out, hbw3, HN.out⟩
              case measure => simp [intOf]; omega
    · have hrm := hno hre
      subst hrm
      clear hmk hno hyes hA
      have hne' : ((re : Int) != 0) = true := bne_iff_ne.2 (by omega)
      go_wp2_with fail
      go_ret
      exact ⟨rfl, hbw⟩
end Go.Proofs.YtckmhbgpaiocbaaDoor
