/- Put together: RefV, RefX, ShoP, Sho1, Sho2, Sho3, Sho4, Sho5, Sho6. -/
import Derived.Test.YtbhekkkijomglaaGreatDoorRefNZ
import Derived.Test.YtbhekkkijomglaaGreatDoorDigs
import Derived.Test.YtbhekkkijomglaaGreatDoorApp
import Derived.Test.YtbhekkkijomglaaGreatDoorNumA
import Derived.Lib.ItoaNum
import Derived.Lib.SlBytesRow
namespace Go.Proofs.YtbhekkkijomglaaGreatDoor
/-! The walk of the reference's run: what is no bracket and no word. -/
section
open Go.RowKit

set_option maxRecDepth 100000 in
set_option maxHeartbeats 1000000 in
theorem run_letbad (s : ByteArray) (w : World) (hs : s.size ≤ 20000) (h : NoBr s) (hb : letB (s.data.toList.headD 0) = true) (hl : s.data.toList.all letB = false) :
    Calls Tryz.prog 54 #[.string s] w (RunR w (bad 3)) := by
  obtain ⟨h0, hf0⟩ := run_front h
  have HBR : Hid (((s.size : Int) == 1) = true → ∀ W, Calls Tryz.prog 53 #[.int .u8 (s[0].toNat : Nat)] W fun e w' => e = .returned (.int .u8 0) ∧ W = w') := by
    intro hh
    rcases hf0 with k | ⟨_, k⟩
    · rw [k] at hh; cases hh
    · exact k
  have hlead : ((s.size : Int) == 1) = false ∨ ((s.size : Int) == 1) = true := by cases ((s.size : Int) == 1) <;> simp
  clear hf0 h
  have hd0 : letB s[0] = true := by
    have := data_get s 0 h0
    cases hh : s.data.toList with
    | nil => rw [hh] at this; cases this
    | cons c r => rw [hh] at this hb; rw [← Option.some.inj this]; exact hb
  have HL0 : Hid (∀ W, Calls Tryz.prog 76 #[.int .u8 (s[0].toNat : Nat)] W fun e w' => e = .returned (.bool true) ∧ W = w') := fun W => rletter_any s[0] W true hd0
  have HALL := Lib.hid hl
  have HLT : Hid (∀ k, (hk : k < s.size) → ∀ W, Calls Tryz.prog 76 #[.int .u8 (s[k].toNat : Nat)] W fun e w' => e = .returned (.bool (letB s[k])) ∧ W = w') := fun k hk W => rletter_any s[k] W _ rfl
  clear hb hl hd0
  unfold RunR
  rcases hlead with hf | hf
  all_goals
    go_enter Tryz.func54, Tryz.ntmps54
    go_wp2_with (first | (go_at_call 53; refine (HBR.out hf _).mono ?_; rintro e w' ⟨rfl, rfl⟩) | (go_at_call 76; refine (HL0.out _).mono ?_; rintro e w' ⟨rfl, rfl⟩))
    go_loop [4] (fun i => ∃ k : Nat, k ≤ s.size ∧ i = .int .i64 k ∧ Hid ((s.data.toList.take k).all letB = true)) (fun i => s.size - (intOf i).toNat)
    case atStart => exact ⟨0, Nat.zero_le _, rfl, rfl⟩
    case round =>
      obtain ⟨k, hk, rfl, HA⟩ := hrel
      by_cases hlt : k < s.size
      · have hc := HLT.out k hlt
        cases hb : letB s[k] with
        | true =>
          rw [hb] at hc
          have HC := Lib.hid hc; clear hc
          go_wp2_with (go_at_call 76; refine (HC.out _).mono ?_; rintro e w' ⟨rfl, rfl⟩)
          go_round
          case rel => exact ⟨k + 1, by omega, by go_num, all_take_succ letB s k hlt HA.out hb⟩
          case measure => simp [intOf] <;> omega
        | false =>
          rw [hb] at hc
          have HC := Lib.hid hc; clear hc
          go_wp2_with (go_at_call 76; refine (HC.out _).mono ?_; rintro e w' ⟨rfl, rfl⟩)
          refine bodyPost_ret (v := .tuple #[.agg #[.int .u8 0, .int .i64 0, .int .i64 0, .int .i64 0, .string ⟨#[]⟩], .int .i64 3]) (by simp [results, Tryz.results54, go_sem]) rfl ⟨rfl, (Below.refl _ _).alloc (Nat.le_refl _) _⟩
      · exfalso
        obtain rfl : k = s.size := by omega
        have := all_done letB s HA.out
        rw [HALL.out] at this
        cases this

set_option maxRecDepth 100000 in
set_option maxHeartbeats 1000000 in
theorem run_none (s : ByteArray) (w : World) (hs : s.size ≤ 20000) (h : NoBr s) (hb : letB (s.data.toList.headD 0) = false) (hc : (digB (s.data.toList.headD 0) || s.data.toList.headD 0 == 45) = false) (hd : (s.data.toList.headD 0 == 35) = false) :
    Calls Tryz.prog 54 #[.string s] w (RunR w (bad 3)) := by
  obtain ⟨h0, hf0⟩ := run_front h
  have HBR : Hid (((s.size : Int) == 1) = true → ∀ W, Calls Tryz.prog 53 #[.int .u8 (s[0].toNat : Nat)] W fun e w' => e = .returned (.int .u8 0) ∧ W = w') := by
    intro hh
    rcases hf0 with k | ⟨_, k⟩
    · rw [k] at hh; cases hh
    · exact k
  have hlead : ((s.size : Int) == 1) = false ∨ ((s.size : Int) == 1) = true := by cases ((s.size : Int) == 1) <;> simp
  clear hf0 h
  have hd0 : s.data.toList.headD 0 = s[0] := by
    have := data_get s 0 h0
    cases hh : s.data.toList with
    | nil => rw [hh] at this; cases this
    | cons c r => rw [hh] at this; exact Option.some.inj this
  rw [hd0] at hb hc
  have HL0 : Hid (∀ W, Calls Tryz.prog 76 #[.int .u8 (s[0].toNat : Nat)] W fun e w' => e = .returned (.bool false) ∧ W = w') := fun W => rletter_any s[0] W false hb
  have HD0 : Hid (∀ W, Calls Tryz.prog 77 #[.int .u8 (s[0].toNat : Nat)] W fun e w' => e = .returned (.bool (digB s[0])) ∧ W = w') := fun W => rdigit_any s[0] W _ rfl
  
  simp only [Bool.or_eq_false_iff] at hc
  have hdg := hc.1
  rw [hdg] at HD0
  have h45 : ((s[0].toNat : Int) == 45) = false := beq_eq_false_iff_ne.2 fun e => (beq_eq_false_iff_ne.1 hc.2) (UInt8.toNat_inj.1 (show s[0].toNat = 45 by omega))
  
  rw [hd0] at hd
  have h35 : ((s[0].toNat : Int) == 35) = false := beq_eq_false_iff_ne.2 fun e => (beq_eq_false_iff_ne.1 hd) (UInt8.toNat_inj.1 (show s[0].toNat = 35 by omega))
  clear hb hc hd hdg hd0
  unfold RunR
  rcases hlead with hf | hf
  all_goals
    go_enter Tryz.func54, Tryz.ntmps54
    go_wp2_with (first | (go_at_call 53; refine (HBR.out hf _).mono ?_; rintro e w' ⟨rfl, rfl⟩) | (go_at_call 76; refine (HL0.out _).mono ?_; rintro e w' ⟨rfl, rfl⟩) | (go_at_call 77; refine (HD0.out _).mono ?_; rintro e w' ⟨rfl, rfl⟩))
    refine bodyPost_ret (v := .tuple #[.agg #[.int .u8 0, .int .i64 0, .int .i64 0, .int .i64 0, .string ⟨#[]⟩], .int .i64 3]) (by simp [results, Tryz.results54, go_sem]) rfl ⟨rfl, (Below.refl _ _).alloc (Nat.le_refl _) _⟩

set_option maxRecDepth 100000 in
set_option maxHeartbeats 1000000 in
theorem run_rowbad (s : ByteArray) (w : World) (hs : s.size ≤ 20000) (h : NoBr s) (hb : letB (s.data.toList.headD 0) = false) (hc : (digB (s.data.toList.headD 0) || s.data.toList.headD 0 == 45) = false) (hd : (s.data.toList.headD 0 == 35) = true) (hr : (s.data.toList.drop 1).all bitB = false) :
    Calls Tryz.prog 54 #[.string s] w (RunR w (bad 3)) := by
  obtain ⟨h0, hf0⟩ := run_front h
  have HBR : Hid (((s.size : Int) == 1) = true → ∀ W, Calls Tryz.prog 53 #[.int .u8 (s[0].toNat : Nat)] W fun e w' => e = .returned (.int .u8 0) ∧ W = w') := by
    intro hh
    rcases hf0 with k | ⟨_, k⟩
    · rw [k] at hh; cases hh
    · exact k
  have hlead : ((s.size : Int) == 1) = false ∨ ((s.size : Int) == 1) = true := by cases ((s.size : Int) == 1) <;> simp
  clear hf0 h
  have hd0 : s.data.toList.headD 0 = s[0] := by
    have := data_get s 0 h0
    cases hh : s.data.toList with
    | nil => rw [hh] at this; cases this
    | cons c r => rw [hh] at this; exact Option.some.inj this
  rw [hd0] at hb hc
  have HL0 : Hid (∀ W, Calls Tryz.prog 76 #[.int .u8 (s[0].toNat : Nat)] W fun e w' => e = .returned (.bool false) ∧ W = w') := fun W => rletter_any s[0] W false hb
  have HD0 : Hid (∀ W, Calls Tryz.prog 77 #[.int .u8 (s[0].toNat : Nat)] W fun e w' => e = .returned (.bool (digB s[0])) ∧ W = w') := fun W => rdigit_any s[0] W _ rfl
  
  simp only [Bool.or_eq_false_iff] at hc
  have hdg := hc.1
  rw [hdg] at HD0
  have h45 : ((s[0].toNat : Int) == 45) = false := beq_eq_false_iff_ne.2 fun e => (beq_eq_false_iff_ne.1 hc.2) (UInt8.toNat_inj.1 (show s[0].toNat = 45 by omega))
  
  rw [hd0] at hd
  have h35 : ((s[0].toNat : Int) == 35) = true := by rw [show s[0] = 35 by simpa using hd]; rfl
  have hx : (s.extract 1 s.size).data.toList = s.data.toList.drop 1 := by
    rw [bs_extract, bs_list, List.take_of_length_le (by rw [List.length_drop]; simp)]
  have s1 : (1 : Int) ≤ (s.size : Int) := by omega
  
  have hbit : ∀ k, (hk : k < s.size) → 1 ≤ k → (s.data.toList.drop 1)[k - 1]? = some s[k] := fun k hk h1 => by rw [List.getElem?_drop, show 1 + (k - 1) = k by omega, data_get s k hk]
  have HBIT := Lib.hid hbit; clear hbit
  
  have HR := Lib.hid hr
  have hlen : Hid ((s.data.toList.drop 1).length = s.size - 1) := by show _ = _; rw [List.length_drop]; simp
  clear hb hc hd hdg hd0 hr hx
  unfold RunR
  rcases hlead with hf | hf
  all_goals
    go_enter Tryz.func54, Tryz.ntmps54
    go_wp2_with (first | (go_at_call 53; refine (HBR.out hf _).mono ?_; rintro e w' ⟨rfl, rfl⟩) | (go_at_call 76; refine (HL0.out _).mono ?_; rintro e w' ⟨rfl, rfl⟩) | (go_at_call 77; refine (HD0.out _).mono ?_; rintro e w' ⟨rfl, rfl⟩))
    go_loop [9] (fun i => ∃ k : Nat, 1 ≤ k ∧ k ≤ s.size ∧ i = .int .i64 k ∧ Hid (∀ j, 1 ≤ j → j < k → ∀ b, (s.data.toList.drop 1)[j - 1]? = some b → bitB b = true)) (fun i => s.size - (intOf i).toNat)
    case atStart => exact ⟨1, Nat.le_refl _, h0, rfl, fun j h1 h2 => by omega⟩
    case round =>
      obtain ⟨k, hk1, hk, rfl, HA⟩ := hrel
      by_cases hlt : k < s.size
      · cases hb : bitB s[k] with
        | true =>
          rcases bit_cases hb with hc | ⟨hc, hc2⟩
          all_goals
            go_wp2_with fail
            go_round
            case rel => exact ⟨k + 1, by omega, by omega, by go_num, fun j h1 h2 b hj => by
              rcases (by omega : j < k ∨ j = k) with h3 | h3
              · exact HA.out j h1 h3 b hj
              · subst h3; rw [HBIT.out j hlt h1] at hj; rw [← Option.some.inj hj]; exact hb⟩
            case measure => simp [intOf] <;> omega
        | false =>
          obtain ⟨hc, hc2⟩ := bit_not hb
          go_wp2_with fail
          refine bodyPost_ret (v := .tuple #[.agg #[.int .u8 0, .int .i64 0, .int .i64 0, .int .i64 0, .string ⟨#[]⟩], .int .i64 3]) (by simp [results, Tryz.results54, go_sem]) rfl ⟨rfl, (Below.refl _ _).alloc (Nat.le_refl _) _⟩
      · exfalso
        have hall : (s.data.toList.drop 1).all bitB = true := by
          rw [List.all_eq_true]
          intro b hbm
          obtain ⟨i, hi, he⟩ := List.mem_iff_getElem.1 hbm
          rw [hlen.out] at hi
          exact HA.out (i + 1) (by omega) (by omega) b (by rw [show i + 1 - 1 = i by omega, List.getElem?_eq_getElem (by rw [hlen.out]; exact hi), he])
        rw [HR.out] at hall
        cases hall

set_option maxRecDepth 100000 in
set_option maxHeartbeats 1000000 in
theorem run_rowlong (s : ByteArray) (w : World) (hs : s.size ≤ 20000) (h : NoBr s) (hb : letB (s.data.toList.headD 0) = false) (hc : (digB (s.data.toList.headD 0) || s.data.toList.headD 0 == 45) = false) (hd : (s.data.toList.headD 0 == 35) = true) (hr : (s.data.toList.drop 1).all bitB = true) (hi : isB (s.data.toList.drop 1) = false) :
    Calls Tryz.prog 54 #[.string s] w (RunR w (bad 5)) := by
  obtain ⟨h0, hf0⟩ := run_front h
  have HBR : Hid (((s.size : Int) == 1) = true → ∀ W, Calls Tryz.prog 53 #[.int .u8 (s[0].toNat : Nat)] W fun e w' => e = .returned (.int .u8 0) ∧ W = w') := by
    intro hh
    rcases hf0 with k | ⟨_, k⟩
    · rw [k] at hh; cases hh
    · exact k
  have hlead : ((s.size : Int) == 1) = false ∨ ((s.size : Int) == 1) = true := by cases ((s.size : Int) == 1) <;> simp
  clear hf0 h
  have hd0 : s.data.toList.headD 0 = s[0] := by
    have := data_get s 0 h0
    cases hh : s.data.toList with
    | nil => rw [hh] at this; cases this
    | cons c r => rw [hh] at this; exact Option.some.inj this
  rw [hd0] at hb hc
  have HL0 : Hid (∀ W, Calls Tryz.prog 76 #[.int .u8 (s[0].toNat : Nat)] W fun e w' => e = .returned (.bool false) ∧ W = w') := fun W => rletter_any s[0] W false hb
  have HD0 : Hid (∀ W, Calls Tryz.prog 77 #[.int .u8 (s[0].toNat : Nat)] W fun e w' => e = .returned (.bool (digB s[0])) ∧ W = w') := fun W => rdigit_any s[0] W _ rfl
  
  simp only [Bool.or_eq_false_iff] at hc
  have hdg := hc.1
  rw [hdg] at HD0
  have h45 : ((s[0].toNat : Int) == 45) = false := beq_eq_false_iff_ne.2 fun e => (beq_eq_false_iff_ne.1 hc.2) (UInt8.toNat_inj.1 (show s[0].toNat = 45 by omega))
  
  rw [hd0] at hd
  have h35 : ((s[0].toNat : Int) == 35) = true := by rw [show s[0] = 35 by simpa using hd]; rfl
  have hx : (s.extract 1 s.size).data.toList = s.data.toList.drop 1 := by
    rw [bs_extract, bs_list, List.take_of_length_le (by rw [List.length_drop]; simp)]
  have s1 : (1 : Int) ≤ (s.size : Int) := by omega
  
  have hbit : ∀ k, (hk : k < s.size) → 1 ≤ k → (s.data.toList.drop 1)[k - 1]? = some s[k] := fun k hk h1 => by rw [List.getElem?_drop, show 1 + (k - 1) = k by omega, data_get s k hk]
  have HBIT := Lib.hid hbit; clear hbit
  
  have hIS := fun W => ris_any (s.extract 1 s.size) W (by unfold maxLen; rw [ByteArray.size_extract]; omega) false (by rw [hx]; exact hi)
  have HIS := Lib.hid hIS; clear hIS
  have HX : Hid (bs (s.data.toList.drop 1) = s.extract 1 s.size) := by show _ = _; rw [← hx, bs_of]
  have HR : Hid (∀ k, (hk : k < s.size) → 1 ≤ k → bitB s[k] = true) := fun k hk h1 => List.all_eq_true.1 hr _ (List.mem_of_getElem? (HBIT.out k hk h1))
  clear hb hc hd hdg hd0 hr hx hi
  unfold RunR
  rcases hlead with hf | hf
  all_goals
    go_enter Tryz.func54, Tryz.ntmps54
    go_wp2_with (first | (go_at_call 53; refine (HBR.out hf _).mono ?_; rintro e w' ⟨rfl, rfl⟩) | (go_at_call 76; refine (HL0.out _).mono ?_; rintro e w' ⟨rfl, rfl⟩) | (go_at_call 77; refine (HD0.out _).mono ?_; rintro e w' ⟨rfl, rfl⟩))
    go_loop [9] (fun i => ∃ k : Nat, 1 ≤ k ∧ k ≤ s.size ∧ i = .int .i64 k) (fun i => s.size - (intOf i).toNat)
    case atStart => exact ⟨1, Nat.le_refl _, h0, rfl⟩
    case round =>
      obtain ⟨k, hk1, hk, rfl⟩ := hrel
      by_cases hlt : k < s.size
      · rcases bit_cases (HR.out k hlt hk1) with hc | ⟨hc, hc2⟩
        all_goals
          go_wp2_with fail
          go_round
          case rel => exact ⟨k + 1, by omega, by omega, by go_num⟩
          case measure => simp [intOf] <;> omega
      · obtain rfl : k = s.size := by omega
        go_wp2_with (go_at_call 80; refine (HIS.out _).mono ?_; rintro e w' ⟨rfl, rfl⟩)
        refine bodyPost_ret (v := .tuple #[.agg #[.int .u8 0, .int .i64 0, .int .i64 0, .int .i64 0, .string ⟨#[]⟩], .int .i64 5]) (by simp [results, Tryz.results54, go_sem]) rfl ⟨rfl, (Below.refl _ _).alloc (Nat.le_refl _) _⟩

set_option maxRecDepth 100000 in
set_option maxHeartbeats 1000000 in
theorem run_row (s : ByteArray) (w : World) (hs : s.size ≤ 20000) (h : NoBr s) (hb : letB (s.data.toList.headD 0) = false) (hc : (digB (s.data.toList.headD 0) || s.data.toList.headD 0 == 45) = false) (hd : (s.data.toList.headD 0 == 35) = true) (hr : (s.data.toList.drop 1).all bitB = true) (hi : isB (s.data.toList.drop 1) = true) :
    Calls Tryz.prog 54 #[.string s] w (RunR w (((9, 0, s.data.toList.drop 1), 0))) := by
  obtain ⟨h0, hf0⟩ := run_front h
  have HBR : Hid (((s.size : Int) == 1) = true → ∀ W, Calls Tryz.prog 53 #[.int .u8 (s[0].toNat : Nat)] W fun e w' => e = .returned (.int .u8 0) ∧ W = w') := by
    intro hh
    rcases hf0 with k | ⟨_, k⟩
    · rw [k] at hh; cases hh
    · exact k
  have hlead : ((s.size : Int) == 1) = false ∨ ((s.size : Int) == 1) = true := by cases ((s.size : Int) == 1) <;> simp
  clear hf0 h
  have hd0 : s.data.toList.headD 0 = s[0] := by
    have := data_get s 0 h0
    cases hh : s.data.toList with
    | nil => rw [hh] at this; cases this
    | cons c r => rw [hh] at this; exact Option.some.inj this
  rw [hd0] at hb hc
  have HL0 : Hid (∀ W, Calls Tryz.prog 76 #[.int .u8 (s[0].toNat : Nat)] W fun e w' => e = .returned (.bool false) ∧ W = w') := fun W => rletter_any s[0] W false hb
  have HD0 : Hid (∀ W, Calls Tryz.prog 77 #[.int .u8 (s[0].toNat : Nat)] W fun e w' => e = .returned (.bool (digB s[0])) ∧ W = w') := fun W => rdigit_any s[0] W _ rfl
  
  simp only [Bool.or_eq_false_iff] at hc
  have hdg := hc.1
  rw [hdg] at HD0
  have h45 : ((s[0].toNat : Int) == 45) = false := beq_eq_false_iff_ne.2 fun e => (beq_eq_false_iff_ne.1 hc.2) (UInt8.toNat_inj.1 (show s[0].toNat = 45 by omega))
  
  rw [hd0] at hd
  have h35 : ((s[0].toNat : Int) == 35) = true := by rw [show s[0] = 35 by simpa using hd]; rfl
  have hx : (s.extract 1 s.size).data.toList = s.data.toList.drop 1 := by
    rw [bs_extract, bs_list, List.take_of_length_le (by rw [List.length_drop]; simp)]
  have s1 : (1 : Int) ≤ (s.size : Int) := by omega
  
  have hbit : ∀ k, (hk : k < s.size) → 1 ≤ k → (s.data.toList.drop 1)[k - 1]? = some s[k] := fun k hk h1 => by rw [List.getElem?_drop, show 1 + (k - 1) = k by omega, data_get s k hk]
  have HBIT := Lib.hid hbit; clear hbit
  
  have hIS := fun W => ris_any (s.extract 1 s.size) W (by unfold maxLen; rw [ByteArray.size_extract]; omega) true (by rw [hx]; exact hi)
  have HIS := Lib.hid hIS; clear hIS
  have HX : Hid (bs (s.data.toList.drop 1) = s.extract 1 s.size) := by show _ = _; rw [← hx, bs_of]
  have HR : Hid (∀ k, (hk : k < s.size) → 1 ≤ k → bitB s[k] = true) := fun k hk h1 => List.all_eq_true.1 hr _ (List.mem_of_getElem? (HBIT.out k hk h1))
  clear hb hc hd hdg hd0 hr hx hi
  unfold RunR
  rcases hlead with hf | hf
  all_goals
    go_enter Tryz.func54, Tryz.ntmps54
    go_wp2_with (first | (go_at_call 53; refine (HBR.out hf _).mono ?_; rintro e w' ⟨rfl, rfl⟩) | (go_at_call 76; refine (HL0.out _).mono ?_; rintro e w' ⟨rfl, rfl⟩) | (go_at_call 77; refine (HD0.out _).mono ?_; rintro e w' ⟨rfl, rfl⟩))
    go_loop [9] (fun i => ∃ k : Nat, 1 ≤ k ∧ k ≤ s.size ∧ i = .int .i64 k) (fun i => s.size - (intOf i).toNat)
    case atStart => exact ⟨1, Nat.le_refl _, h0, rfl⟩
    case round =>
      obtain ⟨k, hk1, hk, rfl⟩ := hrel
      by_cases hlt : k < s.size
      · rcases bit_cases (HR.out k hlt hk1) with hc | ⟨hc, hc2⟩
        all_goals
          go_wp2_with fail
          go_round
          case rel => exact ⟨k + 1, by omega, by omega, by go_num⟩
          case measure => simp [intOf] <;> omega
      · obtain rfl : k = s.size := by omega
        go_wp2_with (go_at_call 80; refine (HIS.out _).mono ?_; rintro e w' ⟨rfl, rfl⟩)
        refine bodyPost_ret (v := .tuple #[.agg #[.int .u8 9, .int .i64 0, .int .i64 0, .int .i64 0, .string (s.extract 1 s.size)], .int .i64 0]) (by simp [results, Tryz.results54, go_sem]) rfl ⟨by rw [HX.out]; rfl, (Below.refl _ _).alloc (Nat.le_refl _) _⟩
end

/-! The walk of the reference's run: numbers. -/
section
open Go.RowKit

/-- A slice's value holds a number's digits. -/
def Num5 (w : World) (B : Option Addr) (v : Nat) : Prop := Nsl w B (dgs (65536 ^ 4) v)
theorem Num5.alloc {w : World} {B : Option Addr} {v : Nat} (h : Num5 w B v) (o : Obj) : Num5 (w.alloc o) B v :=
  Nsl.below h ((Below.refl _ _).alloc (Nat.le_refl _) o)
theorem read5_fit (s : ByteArray) (hs : s.size ≤ 20000) (er v dl : Nat) (neg : Bool) (hr : read5 s.data.toList = (er, neg, v)) (hdl : dl = (dgs (65536 ^ 4) v).length) (W : World) :
    Calls Tryz.prog 78 #[.string s] W fun e w' => ∃ B d, e = .returned (.tuple #[.agg #[.bool neg, .slice B dl d], .int .i64 er]) ∧ Num5 w' B v ∧ Below W.heap.size W w' := by
  refine (read5_any s W hs).mono ?_
  rintro e w1 ⟨xv, rfl, ⟨B, d, rfl, hB, hge⟩, hb1⟩
  rw [hr] at hB ⊢
  subst hdl
  exact ⟨B, d, rfl, hB, hb1⟩

set_option maxRecDepth 100000 in
set_option maxHeartbeats 1000000 in
theorem num_bad (s : ByteArray) (w : World) (neg : Bool) (v dl : Nat) (h0 : 0 < s.size)
    (hlead : ((s.size : Int) == 1) = false ∨ ((s.size : Int) == 1) = true)
    (HBR : Hid (((s.size : Int) == 1) = true → ∀ W, Calls Tryz.prog 53 #[.int .u8 (s[0].toNat : Nat)] W fun e w' => e = .returned (.int .u8 0) ∧ W = w'))
    (HL0 : Hid (∀ W, Calls Tryz.prog 76 #[.int .u8 (s[0].toNat : Nat)] W fun e w' => e = .returned (.bool false) ∧ W = w'))
    (hdg : digB s[0] = true ∨ (digB s[0] = false ∧ ((s[0].toNat : Int) == 45) = true)) (er : Nat) (he1 : ((er : Int) == 5) = false) (he2 : ((er : Int) != 0) = true)
    (H5 : Hid (∀ W, Calls Tryz.prog 78 #[.string s] W fun e w' => ∃ B d, e = .returned (.tuple #[.agg #[.bool neg, .slice B dl d], .int .i64 er]) ∧ Num5 w' B v ∧ Below W.heap.size W w')) :
    Calls Tryz.prog 54 #[.string s] w fun e w' => e = .returned (.tuple #[.agg #[.int .u8 0, .int .i64 0, .int .i64 0, .int .i64 0, .string ⟨#[]⟩], .int .i64 3]) ∧ Below w.heap.size w w' := by
  rcases hdg with hdg | ⟨hdg, h45⟩
  all_goals
    have HD0 := Lib.hid (fun W => rdigit_any s[0] W _ hdg)
    rcases hlead with hf | hf
    all_goals
      go_enter Tryz.func54, Tryz.ntmps54
      go_wp2_with (first | (go_at_call 53; refine (HBR.out hf _).mono ?_; rintro e w' ⟨rfl, rfl⟩) | (go_at_call 76; refine (HL0.out _).mono ?_; rintro e w' ⟨rfl, rfl⟩) | (go_at_call 77; refine (HD0.out _).mono ?_; rintro e w' ⟨rfl, rfl⟩))
      refine (H5.out _).mono ?_
      rintro e w1 ⟨B, d, rfl, hB, hb1⟩
      have hBk1 : Blk w1 w.heap.size 67 #[.int .u8 0, .int .i64 0, .int .i64 0, .int .i64 0, .string ⟨#[]⟩] := (Blk.new w _ _).below hb1 (by simp)
      have hlt1 := hBk1.lt
      have hgne : ¬ w.heap.size = w1.heap.size := by omega
      have hb0 := ((Below.refl w.heap.size w).alloc (Nat.le_refl _) (.cells #[.int .u8 0, .int .i64 0, .int .i64 0, .int .i64 0, .string ⟨#[]⟩] 67)).trans (hb1.mono (by simp))
      have hBk2 := hBk1.alloc (.cells #[.bool neg, .slice B dl d] 104)
      have hb2 := hb0.alloc hb0.size (.cells #[.bool neg, .slice B dl d] 104)
      have hB2 := hB.alloc (.cells #[.bool neg, .slice B dl d] 104)
      clear hb1 hb0 hB
      clear hB2 hgne hlt1
      obtain ⟨⟨c0, c1, c2, c3, c4⟩, f0, f1, f2, f3, f4⟩ := hBk2.five
      obtain ⟨⟨r0, r1, r2, r3, r4⟩, _⟩ := (hBk2.set5 (.int .u8 0) (.int .i64 0) (.int .i64 0) (.int .i64 0) (.string ⟨#[]⟩)).five
      have HR := Lib.hid (And.intro r0 (And.intro r1 (And.intro r2 (And.intro r3 r4))))
      clear r0 r1 r2 r3 r4
      have HFIN := Lib.hid (below_set5 hb2 (Nat.le_refl _) (.int .u8 0) (.int .i64 0) (.int .i64 0) (.int .i64 0) (.string ⟨#[]⟩))
      clear hBk2 hb2 hBk1
      generalize hg : w.heap.size = g at *
      have HG := Lib.hid hg; clear hg
      go_wp2_with fail
      obtain ⟨r0, r1, r2, r3, r4⟩ := HR.out
      refine bodyPost_ret (v := .tuple #[.agg #[.int .u8 0, .int .i64 0, .int .i64 0, .int .i64 0, .string ⟨#[]⟩], .int .i64 3]) (by simp [results, Tryz.results54, go_sem, r0, r1, r2, r3, r4]) rfl ⟨rfl, ?_⟩
      rw [HG.out]
      exact HFIN.out

set_option maxRecDepth 100000 in
set_option maxHeartbeats 1000000 in
theorem num_ok (s : ByteArray) (w : World) (neg : Bool) (v dl : Nat) (h0 : 0 < s.size)
    (hlead : ((s.size : Int) == 1) = false ∨ ((s.size : Int) == 1) = true)
    (HBR : Hid (((s.size : Int) == 1) = true → ∀ W, Calls Tryz.prog 53 #[.int .u8 (s[0].toNat : Nat)] W fun e w' => e = .returned (.int .u8 0) ∧ W = w'))
    (HL0 : Hid (∀ W, Calls Tryz.prog 76 #[.int .u8 (s[0].toNat : Nat)] W fun e w' => e = .returned (.bool false) ∧ W = w'))
    (hdg : digB s[0] = true ∨ (digB s[0] = false ∧ ((s[0].toNat : Int) == 45) = true)) (n : Int)
    (HSM : Hid (∀ B d W, Num5 W B v → Calls Tryz.prog 79 #[.agg #[.bool neg, .slice B dl d]] W fun e w' => e = .returned (.tuple #[.int .i64 n, .bool true]) ∧ Below W.heap.size W w'))
    (H5 : Hid (∀ W, Calls Tryz.prog 78 #[.string s] W fun e w' => ∃ B d, e = .returned (.tuple #[.agg #[.bool neg, .slice B dl d], .int .i64 0]) ∧ Num5 w' B v ∧ Below W.heap.size W w')) :
    Calls Tryz.prog 54 #[.string s] w fun e w' => e = .returned (.tuple #[.agg #[.int .u8 8, .int .i64 0, .int .i64 0, .int .i64 n, .string ⟨#[]⟩], .int .i64 0]) ∧ Below w.heap.size w w' := by
  rcases hdg with hdg | ⟨hdg, h45⟩
  all_goals
    have HD0 := Lib.hid (fun W => rdigit_any s[0] W _ hdg)
    rcases hlead with hf | hf
    all_goals
      go_enter Tryz.func54, Tryz.ntmps54
      go_wp2_with (first | (go_at_call 53; refine (HBR.out hf _).mono ?_; rintro e w' ⟨rfl, rfl⟩) | (go_at_call 76; refine (HL0.out _).mono ?_; rintro e w' ⟨rfl, rfl⟩) | (go_at_call 77; refine (HD0.out _).mono ?_; rintro e w' ⟨rfl, rfl⟩))
      refine (H5.out _).mono ?_
      rintro e w1 ⟨B, d, rfl, hB, hb1⟩
      have hBk1 : Blk w1 w.heap.size 67 #[.int .u8 0, .int .i64 0, .int .i64 0, .int .i64 0, .string ⟨#[]⟩] := (Blk.new w _ _).below hb1 (by simp)
      have hlt1 := hBk1.lt
      have hgne : ¬ w.heap.size = w1.heap.size := by omega
      have hb0 := ((Below.refl w.heap.size w).alloc (Nat.le_refl _) (.cells #[.int .u8 0, .int .i64 0, .int .i64 0, .int .i64 0, .string ⟨#[]⟩] 67)).trans (hb1.mono (by simp))
      have hBk2 := hBk1.alloc (.cells #[.bool neg, .slice B dl d] 104)
      have hb2 := hb0.alloc hb0.size (.cells #[.bool neg, .slice B dl d] 104)
      have hB2 := hB.alloc (.cells #[.bool neg, .slice B dl d] 104)
      clear hb1 hb0 hB
      go_wp2_with fail
      refine (HSM.out B d _ hB2).mono ?_
      rintro e w3 ⟨rfl, hb3⟩
      have hBk3 := hBk2.below hb3 (by simp; omega)
      have hb4 := hb2.trans (hb3.mono hb2.size)
      clear hB2 hBk2 hb2 hb3
      obtain ⟨⟨c0, c1, c2, c3, c4⟩, f0, f1, f2, f3, f4⟩ := hBk3.five
      obtain ⟨⟨r0, r1, r2, r3, r4⟩, _⟩ := (hBk3.set5 (.int .u8 8) (.int .i64 0) (.int .i64 0) (.int .i64 n) (.string ⟨#[]⟩)).five
      have HR := Lib.hid (And.intro r0 (And.intro r1 (And.intro r2 (And.intro r3 r4))))
      clear r0 r1 r2 r3 r4
      have HFIN := Lib.hid (below_set5 hb4 (Nat.le_refl _) (.int .u8 8) (.int .i64 0) (.int .i64 0) (.int .i64 n) (.string ⟨#[]⟩))
      clear hBk3 hb4 hBk1
      generalize hg : w.heap.size = g at *
      have HG := Lib.hid hg; clear hg
      go_wp2_with fail
      obtain ⟨r0, r1, r2, r3, r4⟩ := HR.out
      refine bodyPost_ret (v := .tuple #[.agg #[.int .u8 8, .int .i64 0, .int .i64 0, .int .i64 n, .string ⟨#[]⟩], .int .i64 0]) (by simp [results, Tryz.results54, go_sem, r0, r1, r2, r3, r4]) rfl ⟨rfl, ?_⟩
      rw [HG.out]
      exact HFIN.out

set_option maxRecDepth 100000 in
set_option maxHeartbeats 1000000 in
theorem num_long (s : ByteArray) (w : World) (neg : Bool) (v dl : Nat) (h0 : 0 < s.size)
    (hlead : ((s.size : Int) == 1) = false ∨ ((s.size : Int) == 1) = true)
    (HBR : Hid (((s.size : Int) == 1) = true → ∀ W, Calls Tryz.prog 53 #[.int .u8 (s[0].toNat : Nat)] W fun e w' => e = .returned (.int .u8 0) ∧ W = w'))
    (HL0 : Hid (∀ W, Calls Tryz.prog 76 #[.int .u8 (s[0].toNat : Nat)] W fun e w' => e = .returned (.bool false) ∧ W = w'))
    (hdg : digB s[0] = true ∨ (digB s[0] = false ∧ ((s[0].toNat : Int) == 45) = true)) (n : Int)
    (HSM : Hid (∀ B d W, Num5 W B v → Calls Tryz.prog 79 #[.agg #[.bool neg, .slice B dl d]] W fun e w' => e = .returned (.tuple #[.int .i64 n, .bool false]) ∧ Below W.heap.size W w'))
    (H5 : Hid (∀ W, Calls Tryz.prog 78 #[.string s] W fun e w' => ∃ B d, e = .returned (.tuple #[.agg #[.bool neg, .slice B dl d], .int .i64 0]) ∧ Num5 w' B v ∧ Below W.heap.size W w')) :
    Calls Tryz.prog 54 #[.string s] w fun e w' => e = .returned (.tuple #[.agg #[.int .u8 0, .int .i64 0, .int .i64 0, .int .i64 0, .string ⟨#[]⟩], .int .i64 5]) ∧ Below w.heap.size w w' := by
  rcases hdg with hdg | ⟨hdg, h45⟩
  all_goals
    have HD0 := Lib.hid (fun W => rdigit_any s[0] W _ hdg)
    rcases hlead with hf | hf
    all_goals
      go_enter Tryz.func54, Tryz.ntmps54
      go_wp2_with (first | (go_at_call 53; refine (HBR.out hf _).mono ?_; rintro e w' ⟨rfl, rfl⟩) | (go_at_call 76; refine (HL0.out _).mono ?_; rintro e w' ⟨rfl, rfl⟩) | (go_at_call 77; refine (HD0.out _).mono ?_; rintro e w' ⟨rfl, rfl⟩))
      refine (H5.out _).mono ?_
      rintro e w1 ⟨B, d, rfl, hB, hb1⟩
      have hBk1 : Blk w1 w.heap.size 67 #[.int .u8 0, .int .i64 0, .int .i64 0, .int .i64 0, .string ⟨#[]⟩] := (Blk.new w _ _).below hb1 (by simp)
      have hlt1 := hBk1.lt
      have hgne : ¬ w.heap.size = w1.heap.size := by omega
      have hb0 := ((Below.refl w.heap.size w).alloc (Nat.le_refl _) (.cells #[.int .u8 0, .int .i64 0, .int .i64 0, .int .i64 0, .string ⟨#[]⟩] 67)).trans (hb1.mono (by simp))
      have hBk2 := hBk1.alloc (.cells #[.bool neg, .slice B dl d] 104)
      have hb2 := hb0.alloc hb0.size (.cells #[.bool neg, .slice B dl d] 104)
      have hB2 := hB.alloc (.cells #[.bool neg, .slice B dl d] 104)
      clear hb1 hb0 hB
      go_wp2_with fail
      refine (HSM.out B d _ hB2).mono ?_
      rintro e w3 ⟨rfl, hb3⟩
      have hBk3 := hBk2.below hb3 (by simp; omega)
      have hb4 := hb2.trans (hb3.mono hb2.size)
      clear hB2 hBk2 hb2 hb3
      obtain ⟨⟨c0, c1, c2, c3, c4⟩, f0, f1, f2, f3, f4⟩ := hBk3.five
      obtain ⟨⟨r0, r1, r2, r3, r4⟩, _⟩ := (hBk3.set5 (.int .u8 0) (.int .i64 0) (.int .i64 0) (.int .i64 0) (.string ⟨#[]⟩)).five
      have HR := Lib.hid (And.intro r0 (And.intro r1 (And.intro r2 (And.intro r3 r4))))
      clear r0 r1 r2 r3 r4
      have HFIN := Lib.hid (below_set5 hb4 (Nat.le_refl _) (.int .u8 0) (.int .i64 0) (.int .i64 0) (.int .i64 0) (.string ⟨#[]⟩))
      clear hBk3 hb4 hBk1
      generalize hg : w.heap.size = g at *
      have HG := Lib.hid hg; clear hg
      go_wp2_with fail
      obtain ⟨r0, r1, r2, r3, r4⟩ := HR.out
      refine bodyPost_ret (v := .tuple #[.agg #[.int .u8 0, .int .i64 0, .int .i64 0, .int .i64 0, .string ⟨#[]⟩], .int .i64 5]) (by simp [results, Tryz.results54, go_sem, r0, r1, r2, r3, r4]) rfl ⟨rfl, ?_⟩
      rw [HG.out]
      exact HFIN.out

/-- What stands ahead of a number's run. -/
theorem num_front (s : ByteArray) (h : NoBr s) (hb : letB (s.data.toList.headD 0) = false) (hc : (digB (s.data.toList.headD 0) || s.data.toList.headD 0 == 45) = true) :
    ∃ h0 : 0 < s.size, (((s.size : Int) == 1) = false ∨ ((s.size : Int) == 1) = true) ∧
      Hid (((s.size : Int) == 1) = true → ∀ W, Calls Tryz.prog 53 #[.int .u8 (s[0].toNat : Nat)] W fun e w' => e = .returned (.int .u8 0) ∧ W = w') ∧
      Hid (∀ W, Calls Tryz.prog 76 #[.int .u8 (s[0].toNat : Nat)] W fun e w' => e = .returned (.bool false) ∧ W = w') ∧
      (digB s[0] = true ∨ (digB s[0] = false ∧ ((s[0].toNat : Int) == 45) = true)) := by
  obtain ⟨h0, hf0⟩ := run_front h
  have hd0 : s.data.toList.headD 0 = s[0] := by
    have := data_get s 0 h0
    cases hh : s.data.toList with
    | nil => rw [hh] at this; cases this
    | cons c r => rw [hh] at this; exact Option.some.inj this
  rw [hd0] at hb hc
  refine ⟨h0, by cases ((s.size : Int) == 1) <;> simp, ?_, fun W => rletter_any s[0] W false hb, ?_⟩
  · intro hh
    rcases hf0 with k | ⟨_, k⟩
    · rw [k] at hh; cases hh
    · exact k
  · cases hq : digB s[0]
    · rw [hq, Bool.false_or] at hc
      refine .inr ⟨rfl, ?_⟩
      rw [show s[0] = 45 by simpa using hc]; rfl
    · exact .inl rfl

theorem run_numbad (s : ByteArray) (w : World) (hs : s.size ≤ 20000) (h : NoBr s) (hb : letB (s.data.toList.headD 0) = false) (hc : (digB (s.data.toList.headD 0) || s.data.toList.headD 0 == 45) = true) (er : Nat) (her : er ≠ 0) (her2 : er ≤ 4) (hr : read5 s.data.toList = (er, false, 0)) :
    Calls Tryz.prog 54 #[.string s] w (RunR w (bad 3)) := by
  obtain ⟨h0, h1, h2, h3, h4⟩ := num_front s h hb hc
  exact num_bad s w false 0 _ h0 h1 h2 h3 h4 er (beq_eq_false_iff_ne.2 (by omega)) (bne_iff_ne.2 (by omega)) (Lib.hid (read5_fit s hs er 0 _ false hr rfl))

theorem run_numpos (s : ByteArray) (w : World) (hs : s.size ≤ 20000) (h : NoBr s) (hb : letB (s.data.toList.headD 0) = false) (hc : (digB (s.data.toList.headD 0) || s.data.toList.headD 0 == 45) = true) (v : Nat) (hln : (dgs (65536 ^ 4) v).length ≤ 100000) (h1 : v ≤ 9223372036854775807) (hr : read5 s.data.toList = (0, false, v)) :
    Calls Tryz.prog 54 #[.string s] w (RunR w (((8, (v : Int), []), 0))) := by
  obtain ⟨h0, h1', h2', h3, h4⟩ := num_front s h hb hc
  exact num_ok s w false v _ h0 h1' h2' h3 h4 (v : Int) (Lib.hid (fun B d W h => small_pos v B d W h hln h1)) (Lib.hid (read5_fit s hs 0 v _ false hr rfl))

theorem run_numposlong (s : ByteArray) (w : World) (hs : s.size ≤ 20000) (h : NoBr s) (hb : letB (s.data.toList.headD 0) = false) (hc : (digB (s.data.toList.headD 0) || s.data.toList.headD 0 == 45) = true) (v : Nat) (hln : (dgs (65536 ^ 4) v).length ≤ 100000) (h1 : 9223372036854775807 < v) (hr : read5 s.data.toList = (0, false, v)) :
    Calls Tryz.prog 54 #[.string s] w (RunR w (bad 5)) := by
  obtain ⟨h0, h1', h2', h3, h4⟩ := num_front s h hb hc
  exact num_long s w false v _ h0 h1' h2' h3 h4 0 (Lib.hid (fun B d W h => (by rcases (by omega : v < 18446744073709551616 ∨ 18446744073709551616 ≤ v) with h2 | h2; exact small_pos_long v B d W h hln h1 h2; exact small_pos_great v B d W h hln h2))) (Lib.hid (read5_fit s hs 0 v _ false hr rfl))

theorem run_numneg (s : ByteArray) (w : World) (hs : s.size ≤ 20000) (h : NoBr s) (hb : letB (s.data.toList.headD 0) = false) (hc : (digB (s.data.toList.headD 0) || s.data.toList.headD 0 == 45) = true) (v : Nat) (hln : (dgs (65536 ^ 4) v).length ≤ 100000) (hp : 0 < v) (h1 : v ≤ 9223372036854775808) (hr : read5 s.data.toList = (0, true, v)) :
    Calls Tryz.prog 54 #[.string s] w (RunR w (((8, -(v : Int), []), 0))) := by
  obtain ⟨h0, h1', h2', h3, h4⟩ := num_front s h hb hc
  exact num_ok s w true v _ h0 h1' h2' h3 h4 (-(v : Int)) (Lib.hid (fun B d W h => small_neg v B d W h hln hp h1)) (Lib.hid (read5_fit s hs 0 v _ true hr rfl))

theorem run_numneglong (s : ByteArray) (w : World) (hs : s.size ≤ 20000) (h : NoBr s) (hb : letB (s.data.toList.headD 0) = false) (hc : (digB (s.data.toList.headD 0) || s.data.toList.headD 0 == 45) = true) (v : Nat) (hln : (dgs (65536 ^ 4) v).length ≤ 100000) (hp : 0 < v) (h1 : 9223372036854775808 < v) (hr : read5 s.data.toList = (0, true, v)) :
    Calls Tryz.prog 54 #[.string s] w (RunR w (bad 5)) := by
  obtain ⟨h0, h1', h2', h3, h4⟩ := num_front s h hb hc
  exact num_long s w true v _ h0 h1' h2' h3 h4 0 (Lib.hid (fun B d W h => (by rcases (by omega : v < 18446744073709551616 ∨ 18446744073709551616 ≤ v) with h2 | h2; exact small_neg_long v B d W h hln hp h1 h2; exact small_neg_great v B d W h hln hp h2))) (Lib.hid (read5_fit s hs 0 v _ true hr rfl))
end

/-! Numerals out of digits, in plain Lean. No program in sight. -/
section
open Go

/-- A decimal digit's byte. -/
def db (d : Nat) : UInt8 := UInt8.ofNat (48 + d)
theorem dec_dgs (v : Nat) (h : 0 < v) : Lib.decDigits v = (dgs 10 v).reverse.map db := by
  induction v using Nat.strongRecOn with
  | _ v ih =>
    rw [Lib.decDigits, dgs_pos (by decide) h, List.reverse_cons, List.map_append]
    by_cases h10 : v < 10
    · rw [dif_pos h10, show v / 10 = 0 by omega, dgs_zero, show v % 10 = v by omega]; rfl
    · rw [dif_neg h10, ih (v / 10) (by omega) (by omega)]; rfl
theorem dgs10_lt (v : Nat) : ∀ d ∈ dgs 10 v, d < 10 := dgs_lt (by decide) v
theorem dgs10_snoc (v : Nat) (h : 0 < v) : dgs 10 v = (v % 10) :: dgs 10 (v / 10) := dgs_pos (by decide) h
/-- One step of the division by ten. -/
theorem ten_step (z L D : Nat) (hL : L = D % 10) : (z + 65536 * D) / 10 = (L * 65536 + z) / 10 + 65536 * (D / 10) ∧ (z + 65536 * D) % 10 = (L * 65536 + z) % 10 := by
  subst hL; omega
theorem ten_lt (z L : Nat) (hz : z < 65536) (hL : L < 10) : (L * 65536 + z) / 10 < 65536 := by omega
theorem dv_drop (B : Nat) (xs : List Nat) (j x : Nat) (h : xs[j]? = some x) : dv B (xs.drop j) = x + B * dv B (xs.drop (j + 1)) := by
  obtain ⟨h1, h2⟩ := List.getElem?_eq_some_iff.1 h
  rw [List.drop_eq_getElem_cons h1, h2]; rfl
theorem dv_set (B : Nat) (ys : List Nat) (j y : Nat) (h : j < ys.length) : dv B ((ys.set j y).drop j) = y + B * dv B (ys.drop (j + 1)) := by
  rw [dv_drop B (ys.set j y) j y (by rw [List.getElem?_set_self h])]
  congr 2
  rw [List.drop_set]
  rw [if_pos (by omega)]
/-- A number below 65536 ^ 8 has few digits. -/
theorem dgs_few (B : Nat) (hB : 2 ≤ B) (k : Nat) : ∀ v : Nat, v < B ^ k → (dgs B v).length ≤ k := by
  induction k with
  | zero => intro v h; have : v = 0 := by rw [Nat.pow_zero] at h; omega
            subst this; rw [dgs_zero]; simp
  | succ k ih =>
    intro v h
    rcases Nat.eq_zero_or_pos v with h0 | h0
    · subst h0; rw [dgs_zero]; simp
    · rw [dgs_pos hB h0, List.length_cons]
      have := ih (v / B) (by rw [Nat.div_lt_iff_lt_mul (by omega), ← Nat.pow_succ]; exact h)
      omega
end

/-! The walks of the reference's Ten, and its Show of naturals. -/
section
open Go.RowKit

theorem made_u (n : Nat) : (madeCells (Value.int .u64 0).cells (n * 1)).toList = uCells (List.replicate n 0) := by
  have h : ∀ x : Nat, ([Value.int .u64 0][x % 1]?).getD default = Value.int .u64 0 := fun x => by rw [Nat.mod_one]; rfl
  simp [madeCells, Value.cells, uCells, h]
  exact (List.map_const' ..).trans (by rw [List.length_range])
theorem u_set (ys : List Nat) (j y : Nat) : (uCells ys).set j (.int .u64 (y : Int)) = uCells (ys.set j y) := by
  unfold uCells; rw [List.map_set]
theorem dv_rep (B n : Nat) : dv B (List.replicate n 0) = 0 := by
  induction n with
  | zero => rfl
  | succ n ih => rw [List.replicate_succ]; show 0 + B * _ = 0; rw [ih]; omega

theorem Nsl.grown {w w' : World} {A : Option Addr} {xs : List Nat} {row : Option Nat} (h : Nsl w A xs) (hg : w.grownBy w' row) (hne : ∀ a, A = some a → some a.block ≠ row) : Nsl w' A xs := fun hn => by
  obtain ⟨g, o, e, hl, hc⟩ := h hn
  refine ⟨g, o, e, Nat.lt_of_lt_of_le hl hg.size, fun k x hx => ?_⟩
  rw [World.cell?_of_block (a := ⟨g, o + k, none⟩) (hg.block g hl (fun e2 => hne _ e (by rw [← e2])))]
  exact hc k x hx
def TenR (w : World) (q r : Nat) (e : Ending) (w' : World) : Prop :=
  ∃ B d, e = .returned (.tuple #[.slice B (dgs 65536 q).length d, .int .u64 r]) ∧ Nsl w' B (dgs 65536 q) ∧ Below w.heap.size w w' ∧ ∀ a, B = some a → w.heap.size ≤ a.block

set_option maxRecDepth 100000 in
set_option maxHeartbeats 1000000 in
/-- Digits divided by ten: the quotient's digits, and what is left. -/
theorem ten_any (xs : List Nat) (A : Option Addr) (c : Nat) (w : World) (hn : xs.length ≤ 1048576) (h0 : xs ≠ []) (hA : Nsl w A xs) (hlt : ∀ x ∈ xs, x < 65536) :
    Calls Tryz.prog 100 #[.slice A xs.length c] w (TenR w (dv 65536 xs / 10) (dv 65536 xs % 10)) := by
  obtain ⟨i0, hi, hz0, hz1, hz2⟩ := info_parts (P := Tryz.prog) (e := 130) (z := .int .u64 0) (size := 1) (bytes := 8) (by kernel_rfl)
  have HU : Tryz.prog.underlying 101 = some (.slice 130) := by kernel_rfl
  obtain ⟨g0, o0, rfl, hg0, hcl⟩ := hA h0
  have HLT := Lib.hid hlt; have HCL := Lib.hid hcl
  have hp : 0 < xs.length := by
    rcases Nat.eq_zero_or_pos xs.length with h | h
    · exact absurd (List.length_eq_zero_iff.1 h) h0
    · exact h
  clear hA hlt hcl h0
  go_enter Tryz.func100, Tryz.ntmps100
  go_wp2_with (at_make; refine wpList_make_full _ rfl _ _ 101 rfl w.heap.size 130 i0 (.int .u64 0) 1 HU hi hz0 hz1 .i64 .i64 _ _ xs.length rfl rfl rfl rfl (by rw [hz2]; omega) (by unfold maxLen; omega) (Nat.le_refl _) ?_; intro w1 hown1 hgrow1; rw [made_u] at hown1; have hb1 : Below w.heap.size w w1 := Below.grown (Below.refl _ _) hgrow1 (Nat.le_refl _) (fun j hj => by cases hj); clear hgrow1)
  go_loopw [5, 6] (fun L i wr => ∃ (k : Nat) (x : Int) (ys : List Nat) (l : Nat), x + 1 = k ∧ k ≤ xs.length ∧ i = .int .i64 x ∧ L = .int .u64 l ∧ l < 10 ∧ Hid (l = dv 65536 (xs.drop k) % 10) ∧ ys.length = xs.length ∧ Hid (∀ y ∈ ys, y < 65536) ∧ Hid (dv 65536 (ys.drop k) = dv 65536 (xs.drop k) / 10) ∧ wr.ownsRow w.heap.size 130 1 (.slice (some ⟨w.heap.size, 0, none⟩) xs.length xs.length) xs.length (uCells ys) ∧ Below w.heap.size w wr) (fun _ i _ => (intOf i + 1).toNat)
  case atStart =>
    refine ⟨xs.length, _, List.replicate xs.length 0, 0, by omega, Nat.le_refl _, rfl, rfl, by omega, ?_, List.length_replicate, ?_, ?_, hown1, hb1⟩
    · show _ = _; rw [List.drop_length]; rfl
    · intro y hy; rw [List.eq_of_mem_replicate hy]; decide
    · show _ = _; rw [List.drop_length, List.drop_eq_nil_of_le (by simp)]; rfl
  case round =>
    obtain ⟨k, x, ys, l, hxk, hk, rfl, rfl, hl10, HL, hyl, HY, HQ, hown, hbw⟩ := hrel
    by_cases hx0 : 0 ≤ x
    · obtain ⟨j, rfl⟩ : ∃ j : Nat, x = j := ⟨x.toNat, by omega⟩
      obtain rfl : k = j + 1 := by omega
      clear hxk
      obtain ⟨z, hz⟩ : ∃ z, xs[j]? = some z := ⟨xs[j], List.getElem?_eq_getElem (by omega)⟩
      have hz6 := HLT.out z (List.mem_of_getElem? hz)
      have cj : wr.cell? ⟨g0, o0 + j, none⟩ = some (.int .u64 z) := by rw [hbw.cell (p := ⟨g0, o0 + j, none⟩) hg0]; exact HCL.out j z hz
      obtain ⟨s1, s2⟩ := ten_step z l (dv 65536 (xs.drop (j + 1))) HL.out
      have hlt6 := ten_lt z l hz6 hl10
      have hyj : j < ys.length := by omega
      obtain ⟨y, hy⟩ : ∃ y, ys[j]? = some y := ⟨ys[j], List.getElem?_eq_getElem hyj⟩
      have cy : wr.cell? ⟨w.heap.size, j, none⟩ = some (.int .u64 y) := (hown.cellAt j (by omega)).trans (by unfold uCells; rw [List.getElem?_map, hy]; rfl)
      have fy := hown.frozenAt j
      have hst := (hown.stored j (.int .u64 (((l * 65536 + z) / 10 : Nat) : Int))).1
      rw [u_set] at hst
      have F : Hid ((l * 65536 + z) % 10 = dv 65536 (xs.drop j) % 10 ∧ (ys.set j ((l * 65536 + z) / 10)).length = xs.length ∧ (∀ y' ∈ ys.set j ((l * 65536 + z) / 10), y' < 65536) ∧ dv 65536 ((ys.set j ((l * 65536 + z) / 10)).drop j) = dv 65536 (xs.drop j) / 10) := by
        refine ⟨by rw [dv_drop 65536 xs j z hz]; exact s2.symm, by rw [List.length_set]; exact hyl, fun y' hy' => ?_, ?_⟩
        · rcases List.mem_or_eq_of_mem_set hy' with h | h
          · exact HY.out y' h
          · rw [h]; exact hlt6
        · rw [dv_set _ _ _ _ hyj, dv_drop 65536 xs j z hz, HQ.out, s1]
      have e1 : (((l * 65536 + z) / 10 : Nat) : Int) = ((l : Int) * 65536 + (z : Int)) / 10 := by omega
      have e2 : (((l * 65536 + z) % 10 : Nat) : Int) = ((l : Int) * 65536 + (z : Int)) % 10 := by omega
      rw [e1] at hst
      have HST := Lib.hid hst; have HB := Lib.hid (hbw.setCell (p := ⟨w.heap.size, j, none⟩) (Nat.le_refl _) (.int .u64 (((l : Int) * 65536 + (z : Int)) / 10)))
      have HE2 := Lib.hid e2
      have j1 : (j : Int) < (xs.length : Int) := by omega
      clear hst hown hbw hz hy s1 s2 e1 e2 HL HQ HY hyl hown1 hb1
      go_wp2_with fail
      go_roundw
      case rel => exact ⟨j, _, _, (l * 65536 + z) % 10, by omega, by omega, rfl, by rw [HE2.out], by omega, F.out.1, F.out.2.1, F.out.2.2.1, F.out.2.2.2, HST.out, HB.out⟩
      case measure => simp [intOf] <;> omega
    · obtain rfl : k = 0 := by omega
      obtain rfl : x = -1 := by omega
      clear hx0 hxk hk hown1 hb1
      have hq := HQ.out; have hl := HL.out
      rw [List.drop_zero, List.drop_zero] at hq
      rw [List.drop_zero] at hl
      have HV : Hid (l = dv 65536 xs % 10 ∧ dv 65536 ys = dv 65536 xs / 10) := ⟨hl, hq⟩
      have hstart : Hid (dv 65536 (ys.take xs.length) = dv 65536 ys) := by show _ = _; rw [← hyl, List.take_length]
      have hN : Nsl wr (some ⟨w.heap.size, 0, none⟩) ys := by
        obtain ⟨A', c', hv, hN, _⟩ := own_nsl (xs := ys) (by rw [hyl]; exact hown)
        obtain ⟨rfl, -, rfl⟩ : A' = some ⟨w.heap.size, 0, none⟩ ∧ ys.length = xs.length ∧ c' = xs.length := by injection hv with q1 q2 q3; exact ⟨q1.symm, q2.symm, q3.symm⟩
        exact hN
      have HN := Lib.hid hN
      have HCY : Hid (∀ (j y : Nat), ys[j]? = some y → wr.cell? ⟨w.heap.size, j, none⟩ = some (.int .u64 y)) := fun j y h => by
        have hj := (List.getElem?_eq_some_iff.1 h).1
        exact (hown.cellAt j (by omega)).trans (by unfold uCells; rw [List.getElem?_map, h]; rfl)
      have HYL := Lib.hid hyl
      have HBW := Lib.hid hbw
      clear hq hl HQ HL hyl hown hN hbw
      go_wp2_with fail
      go_loop [8] (fun n => ∃ k : Nat, k ≤ xs.length ∧ n = .int .i64 k ∧ Hid (dv 65536 (ys.take k) = dv 65536 ys)) (fun n => (intOf n).toNat)
      case atStart => exact ⟨xs.length, Nat.le_refl _, rfl, hstart⟩
      case round =>
        obtain ⟨k, hk, rfl, HK⟩ := hrel
        have hres : Hid (ys.take k = dgs 65536 (dv 65536 ys) → ∃ B d, Ending.returned (.tuple #[.slice (some ⟨w.heap.size, 0, none⟩) k xs.length, .int .u64 l]) = .returned (.tuple #[.slice B (dgs 65536 (dv 65536 xs / 10)).length d, .int .u64 (dv 65536 xs % 10 : Nat)]) ∧ Nsl wr B (dgs 65536 (dv 65536 xs / 10)) ∧ Below w.heap.size w wr ∧ ∀ a, B = some a → w.heap.size ≤ a.block) := fun h => by
          rw [HV.out.2] at h
          refine ⟨some ⟨w.heap.size, 0, none⟩, xs.length, ?_, by rw [← h]; exact HN.out.take k, HBW.out, fun a ha => by cases ha; exact Nat.le_refl _⟩
          rw [← h, List.length_take, HYL.out, Nat.min_eq_left hk, ← HV.out.1]
        rcases Nat.eq_zero_or_pos k with hk0 | hk0
        · subst hk0
          have hfin : Hid (ys.take 0 = dgs 65536 (dv 65536 ys)) := by
            show _ = _
            rw [← HK.out, List.take_zero]
            exact (dgs_zero _).symm
          clear HK hstart
          go_wp2_with fail
          go_ret2
          exact hres.out hfin.out
        · obtain ⟨j, rfl⟩ : ∃ j, k = j + 1 := ⟨k - 1, by omega⟩
          obtain ⟨y, hy⟩ : ∃ y, ys[j]? = some y := ⟨ys[j]'(by have := HYL.out; omega), List.getElem?_eq_getElem _⟩
          have cj := HCY.out j y hy
          have hjn : (j : Int) < (xs.length : Int) := by omega
          have hjc : ((j + 1 : Nat) : Int) ≤ (xs.length : Int) := by omega
          have HX := Lib.hid hy; clear hy
          by_cases hy0 : y = 0
          · subst hy0
            have hstep : Hid (dv 65536 (ys.take j) = dv 65536 ys) := by show _ = _; rw [← HK.out, cut_zero ys j (by have := HYL.out; omega) HX.out]
            clear HK hstart hres
            go_wp2_with fail
            go_round
            case rel => exact ⟨j, by omega, by go_num, hstep⟩
            case measure => simp [intOf] <;> omega
          · have hfin : Hid (ys.take (j + 1) = dgs 65536 (dv 65536 ys)) := by
              show _ = _
              rw [← HK.out]
              exact (cut_done (by decide) ys j y HY.out HX.out (by omega)).symm
            have hy1 : ((y : Int) == 0) = false := beq_eq_false_iff_ne.2 (by omega)
            clear HK hstart
            go_wp2_with fail
            go_ret2
            exact hres.out hfin.out
end

/-! The walk of the reference's Show of naturals. -/
section
open Go.RowKit

/-- Decimal digits as a slice's cells. -/
def dCells (ts : List Nat) : List Value := ts.map fun (t : Nat) => Value.int .u8 (48 + (t : Int))
theorem dCells_length (ts : List Nat) : (dCells ts).length = ts.length := by unfold dCells; exact List.length_map _
theorem dCells_snoc (ts : List Nat) (t : Nat) : dCells (ts ++ [t]) = dCells ts ++ [.int .u8 (48 + (t : Int))] := by unfold dCells; rw [List.map_append]; rfl
theorem dCells_at (ts : List Nat) (k t : Nat) (h : ts[k]? = some t) : (dCells ts)[k]? = some (.int .u8 (48 + (t : Int))) := by unfold dCells; rw [List.getElem?_map, h]; rfl
/-- A slice's length. -/
def slLen : Value → Nat | .slice _ n _ => n | _ => 0
theorem slLen_own {w : World} {B : Nat} {T : TypeId} {s n : Nat} {v : Value} {xs : List Value} (h : w.ownsRow B T s v n xs) : slLen v = n := by
  rcases h.2 with ⟨rfl, hz⟩ | ⟨g, cap, cur, rfl, _⟩
  · exact hz.symm
  · rfl
theorem made_b (n : Nat) : (madeCells (Value.int .u8 0).cells (n * 1)).toList = List.replicate n (.int .u8 0) := by
  have h : ∀ x : Nat, ([Value.int .u8 0][x % 1]?).getD default = Value.int .u8 0 := fun x => by rw [Nat.mod_one]; rfl
  simp [madeCells, Value.cells, h]
  exact (List.map_const' ..).trans (by rw [List.length_range])
theorem dgs_none (v : Nat) : (dgs 65536 v).length = 0 ↔ v = 0 := by rw [List.length_eq_zero_iff]; exact dgs_nil (by decide) v
theorem rev_step (ts : List Nat) (k t : Nat) (h : ts[k]? = some t) : (ts.take (k + 1)).reverse = t :: (ts.take k).reverse := by
  rw [List.take_add_one, h]; simp
theorem set_drop (cs : List Value) (j : Nat) (v : Value) (r : List Value) (h : j < cs.length) (hr : cs.drop (j + 1) = r) : (cs.set j v).drop j = v :: r := by
  rw [List.drop_eq_getElem_cons (by rw [List.length_set]; exact h), List.getElem_set_self, List.drop_set, if_pos (by omega), hr]

set_option maxRecDepth 100000 in
set_option maxHeartbeats 1000000 in
theorem rshow4_zero (A : Option Addr) (c : Nat) (w : World) :
    Calls Tryz.prog 72 #[.slice A 0 c] w fun e w' => e = .returned (.string (bs (Lib.decDigits 0))) ∧ Below w.heap.size w w' := by
  have hd : Hid (bs (Lib.decDigits 0) = ⟨#[48]⟩) := by show _ = _; rw [Lib.decDigits]; rfl
  go_enter Tryz.func72, Tryz.ntmps72
  go_wp2_with fail
  refine (digits_any [] A c w (by simp) (Nsl.nil _ _) (by simp)).mono ?_
  rw [show dv (65536 ^ 4) [] = 0 from rfl, dgs_zero]
  rintro e w1 ⟨B, d, rfl, hB, _, _, hb⟩
  go_wp2_with fail
  go_ret
  exact ⟨by rw [hd.out]; rfl, hb⟩

set_option maxRecDepth 100000 in
set_option maxHeartbeats 1000000 in
theorem rshow4_any (zs : List Nat) (A : Option Addr) (n c : Nat) (w : World) (hl : zs.length = n) (hn : zs.length ≤ 100) (hA : Nsl w A zs) (hlt : ∀ x ∈ zs, x < 65536 ^ 4) (V : Nat) (hV : dv (65536 ^ 4) zs = V) (hp : 0 < V) (hV4 : V < 65536 ^ 4) :
    Calls Tryz.prog 72 #[.slice A n c] w fun e w' => e = .returned (.string (bs (Lib.decDigits V))) ∧ Below w.heap.size w w' := by
  subst hl
  have DD := fun W h => digits_any zs A c W (by omega) h hlt
  rw [hV] at DD
  have HD := Lib.hid DD; clear DD hlt hV
  have hdec := dec_dgs V hp
  obtain ⟨M, hM⟩ : ∃ M, M = dgs 10 V := ⟨_, rfl⟩
  rw [← hM] at hdec
  have HDEC := Lib.hid hdec
  have hM0 : 0 < M.length := by rw [hM, dgs_pos (by decide) hp]; simp
  have hMl : M.length ≤ 20 := by rw [hM]; exact dgs_few 10 (by decide) 20 V (Nat.lt_of_lt_of_le hV4 (by decide))
  have hMd : Hid (∀ t ∈ M, t < 10) := by rw [hM]; exact dgs10_lt V
  obtain ⟨i0, hi, hz0, hz1, hz2⟩ := info_parts (P := Tryz.prog) (e := 5) (z := .int .u8 0) (size := 1) (bytes := 1) (by kernel_rfl)
  have HU : Tryz.prog.underlying 40 = some (.slice 5) := by kernel_rfl
  have HV0 : Hid ([] ++ dgs 10 V = M) := by show _ = _; rw [hM]; rfl
  have hne : ((dgs 65536 V).length : Int) ≠ 0 := by have := dgs_none V; omega
  have hne1 : (((dgs 65536 V).length : Int) == 0) = false := beq_eq_false_iff_ne.2 hne
  have HL4 : Hid (∀ v ≤ V, (dgs 65536 v).length ≤ 4) := fun v hv => dgs_few 65536 (by decide) 4 v (Nat.lt_of_le_of_lt hv hV4)
  clear hM hdec hne hV4
  go_enter Tryz.func72, Tryz.ntmps72
  go_wp2_with fail
  refine (HD.out _ hA).mono ?_
  rintro e w1 ⟨B, d, rfl, hB, _, hd4, hb1⟩
  go_wp2_with fail
  go_loopw [3, 4] (fun l tv wr => ∃ (v : Nat) (B : Option Addr) (d : Nat) (ts : List Nat), v ≤ V ∧ l = .slice B (dgs 65536 v).length d ∧ Nsl wr B (dgs 65536 v) ∧ wr.ownsRow w.heap.size 5 1 tv ts.length (dCells ts) ∧ Hid (ts ++ dgs 10 v = M) ∧ Below w.heap.size w wr) (fun _ tv _ => M.length - slLen tv)
  case atStart => exact ⟨V, B, d, [], Nat.le_refl _, rfl, hB, World.ownsRow_nil _ _ _ _, HV0, hb1⟩
  case round =>
    obtain ⟨v, B, d, ts, hvV, rfl, hB, hown, HT, hbw⟩ := hrel
    have hl4 := HL4.out v hvV
    have hTl : ts.length + (dgs 10 v).length = M.length := by rw [← HT.out, List.length_append]
    by_cases hv0 : v = 0
    · subst hv0
      have hts : ts = M := by rw [← HT.out, dgs_zero, List.append_nil]
      subst hts
      have hz := dgs_zero 65536
      rw [hz]
      clear hB HT hTl hl4 HL4 hz HV0 hb1 hd4 hne1 HD hvV hA
      obtain ⟨TA, tc, rfl⟩ : ∃ TA tc, u4 = .slice TA ts.length tc := by
        rcases hown.2 with ⟨hv, hz⟩ | ⟨g, cap, cur, hv, _⟩
        · exact ⟨none, 0, by rw [hv, hz]⟩
        · exact ⟨_, cap, hv⟩
      obtain ⟨g, cap, hTA, hg⟩ := hown.form hM0
      obtain ⟨rfl, -, rfl⟩ : TA = some ⟨g, 0, none⟩ ∧ ts.length = ts.length ∧ tc = cap := by injection hTA with q1 q2 q3; exact ⟨q1, q2, q3⟩
      clear hTA
      obtain ⟨wo, rfl⟩ : ∃ wo : World, wo = wr := ⟨_, rfl⟩
      have HO := Lib.hid hown
      have HBW := Lib.hid hbw
      clear hown hbw
      have hM1 : (0 : Int) < (ts.length : Int) := by omega
      go_wp2_with (at_make; refine wpList_make_full _ rfl _ _ 40 rfl wo.heap.size 5 i0 (.int .u8 0) 1 HU hi hz0 hz1 .i64 .i64 _ _ ts.length rfl rfl rfl rfl (by rw [hz2]; omega) (by unfold maxLen; omega) (Nat.le_refl _) ?_; intro w2 hown2 hgrow2; rw [made_b] at hown2; have hb2 : Below wo.heap.size wo w2 := Below.grown (Below.refl _ _) hgrow2 (Nat.le_refl _) (fun j hj => by cases hj); clear hgrow2)
      go_loopw [8] (fun i wr => ∃ (k : Nat) (cs : List Value), k ≤ ts.length ∧ i = .int .i64 k ∧ wr.ownsRow wo.heap.size 5 1 (.slice (some ⟨wo.heap.size, 0, none⟩) ts.length ts.length) ts.length cs ∧ Hid (cs.drop (ts.length - k) = dCells (ts.take k).reverse) ∧ Below wo.heap.size wo wr) (fun i _ => ts.length - (intOf i).toNat)
      case atStart => exact ⟨0, _, Nat.zero_le _, rfl, hown2, by show _ = _; rw [Nat.sub_zero, List.drop_eq_nil_of_le (by simp)]; rfl, hb2⟩
      case round =>
        obtain ⟨k, cs, hk, rfl, hown, HC, hbw⟩ := hrel
        by_cases hlt : k < ts.length
        · obtain ⟨t, ht⟩ : ∃ t, ts[k]? = some t := ⟨ts[k], List.getElem?_eq_getElem hlt⟩
          have ct : wr.cell? ⟨g, k, none⟩ = some (.int .u8 (48 + (t : Int))) := by
            rw [hbw.cell (p := ⟨g, k, none⟩) hg.2]
            exact (HO.out.cellAt k (by omega)).trans (dCells_at ts k t ht)
          have hcl := hown.1
          obtain ⟨j, hj⟩ : ∃ j, j + 1 + k = ts.length := ⟨ts.length - 1 - k, by omega⟩
          have hji : (ts.length : Int) - 1 - (k : Int) = (j : Int) := by omega
          have hjl : (j : Int) < (ts.length : Int) := by omega
          have cj : wr.cell? ⟨wo.heap.size, j, none⟩ = some (cs[j]'(by omega)) := (hown.cellAt j (by omega)).trans (List.getElem?_eq_getElem _)
          have fj := hown.frozenAt j
          have HST := Lib.hid (hown.stored j (.int .u8 (48 + (t : Int)))).1
          have HB := Lib.hid (hbw.setCell (p := ⟨wo.heap.size, j, none⟩) (Nat.le_refl _) (.int .u8 (48 + (t : Int))))
          have HN : Hid ((cs.set j (.int .u8 (48 + (t : Int)))).drop (ts.length - (k + 1)) = dCells (ts.take (k + 1)).reverse) := by
            show _ = _
            rw [show ts.length - (k + 1) = j by omega, rev_step ts k t ht]
            have hc0 := HC.out
            rw [show ts.length - k = j + 1 by omega] at hc0
            exact set_drop cs j _ _ (by omega) hc0
          clear hown hbw HC ht hown2 hb2
          generalize cs[j] = cu at cj
          go_wp2_with fail
          go_roundw
          case rel => exact ⟨k + 1, _, by omega, by go_num, HST.out, HN.out, HB.out⟩
          case measure => simp [intOf] <;> omega
        · obtain rfl : k = ts.length := by omega
          have hc := HC.out
          rw [Nat.sub_self, List.drop_zero, List.take_length] at hc
          subst hc
          have hfin := HDEC.out
          have hS : Lib.Bytes wr wo.heap.size 0 (bs (Lib.decDigits V)) := by
            intro i hi'
            rw [bs_size] at hi'
            have hln : (Lib.decDigits V).length = ts.length := by rw [hfin]; simp
            have h1 := hown.cellAt i (by omega)
            rw [Nat.zero_add, h1]
            have h2 : (ts.reverse)[i]? = some ((ts.reverse)[i]'(by rw [List.length_reverse]; omega)) := List.getElem?_eq_getElem _
            rw [dCells_at _ i _ h2]
            have h3 : (bs (Lib.decDigits V))[i]'(by rw [bs_size]; exact hi') = db ((ts.reverse)[i]'(by rw [List.length_reverse]; omega)) := by
              show (bs (Lib.decDigits V)).data[i]'_ = _
              unfold bs
              simp only [List.getElem_toArray, hfin, List.getElem_map]
            rw [h3]
            have h4 : (ts.reverse)[i]'(by rw [List.length_reverse]; omega) < 10 := hMd.out _ (List.mem_reverse.1 (List.getElem_mem _))
            unfold db
            rw [UInt8.toNat_ofNat_of_lt' (by show _ < 256; omega)]
            rfl
          have hcv := Lib.run_convert_whole (P := Tryz.prog) wr 40 5 9 HU (by kernel_rfl) (by kernel_rfl) wo.heap.size 0 (bs (Lib.decDigits V)) hS ts.length
          have hsz : (bs (Lib.decDigits V)).size = ts.length := by rw [bs_size, hfin]; simp
          rw [hsz] at hcv
          have HX := Lib.hid (HBW.out.trans (hbw.mono HBW.out.size))
          clear hS hfin hown hbw HC hsz hown2 hb2 HDEC
          generalize hX : Lib.decDigits V = X at *
          have HE := Lib.hid hX; clear hX
          go_wp2_with fail
          go_ret
          exact ⟨by rw [HE.out]; rfl, HX.out⟩
    · have hv1 : 0 < v := by omega
      have hx0 : dgs 65536 v ≠ [] := by intro e; exact hv0 ((dgs_nil (by decide) v).1 e)
      have hdv : dv 65536 (dgs 65536 v) = v := dv_dgs (by decide) v
      have hTen := fun d W h => ten_any (dgs 65536 v) B d W (by omega) hx0 h (dgs_lt (by decide) v)
      rw [hdv] at hTen
      have HTEN := Lib.hid hTen
      have hlp : (0 : Int) < ((dgs 65536 v).length : Int) := by have := dgs_none v; omega
      have hs10 := dgs10_snoc v hv1
      rw [hs10, List.length_cons] at hTl
      have hT2 : Hid ((ts ++ [v % 10]) ++ dgs 10 (v / 10) = M) := by show _ = _; rw [← HT.out, hs10, List.append_assoc]; rfl
      have hd10 : v % 10 < 10 := by omega
      have hv' : v / 10 ≤ V := by omega
      have HDV := Lib.hid hv'
      clear hTen hdv hx0 HT hs10 hne1 hb1 HV0 HL4 hv0 hA HD hd4 HDEC hv' hv1
      generalize hdd : v % 10 = dd at *
      generalize hvv : v / 10 = v2 at *
      have hsl := slLen_own hown
      have HSL := Lib.hid hsl
      have HWP := Lib.hid (And.intro hi (And.intro hz0 (And.intro hz1 (And.intro hz2 HU))))
      clear hdd hsl hvv
      go_wp2_with fail
      refine (HTEN.out _ _ hB).mono ?_
      rintro e w2 ⟨B2, d2, rfl, hB2, hb2, hge⟩
      have HGE := Lib.hid hge
      have HLTB : Hid (∀ b, u4.ownBlock = some b → b < wr.heap.size) := fun b h => (hown.lt b h).2
      clear hge
      have hown2 := own_below hown hb2
      have hx := hbw.trans (hb2.mono hbw.size)
      clear hown hbw hb2 hB HTEN
      go_wp2_with (first
        | (at_builtin; refine wpList_append_own _ rfl _ _ 40 rfl w.heap.size 5 i0 (.int .u8 0) 1 1 HU hi hz0 hz1 hz2 rfl (by decide) _ _ _ rfl (hown2.alloc _) ⟨w2.heap.size, 0, none⟩ 1 1 [.int .u8 (48 + (dd : Int))] rfl rfl ?_ ?_ ?_ ?_ ?_ ?_
           · exact one_new _ _ _
           · exact (fun x hx => by simp at hx; subst hx; rfl)
           · unfold maxLen; omega
           · omega
           · have := hx.size; simp at this ⊢; omega
           intro v' w3 hown' hgrow3 hnil3
           have hal := hown2.alloc (.cells #[.int .u8 (48 + (dd : Int))] 5)
           have hb3 := Below.grown (hx.alloc hx.size (.cells #[.int .u8 (48 + (dd : Int))] 5)) hgrow3 (Nat.le_trans hx.size (by simp)) (fun j hj => (hal.lt _ hj).1)
           have hB3 : Nsl w3 B2 (dgs 65536 v2) := (hB2.below ((Below.refl _ _).alloc (Nat.le_refl _) _)).grown hgrow3 (fun a ha e2 => by
             have h1 := HGE.out a ha
             have h2 := HLTB.out _ e2.symm
             omega)
           have X := Lib.hid (And.intro hown' (And.intro hb3 hB3))
           clear hown' hb3 hgrow3 hnil3 hal hB3))
      go_roundw
      case rel => exact ⟨v2, B2, d2, ts ++ [dd], HDV.out, rfl, X.out.2.2, by rw [List.length_append, dCells_snoc]; exact X.out.1, hT2.out, X.out.2.1⟩
      case measure =>
        have h1 := slLen_own X.out.1
        have h2 := HSL.out
        simp [h1, h2]
        omega
end

/-! The walks of the references' Of and Add (naturals), Of, Sign and Show (whole numbers). -/
section
open Go.RowKit

theorem Num5.below {w w' : World} {B : Option Addr} {v : Nat} (h : Num5 w B v) (hb : Below w.heap.size w w') : Num5 w' B v := Nsl.below h hb
theorem limbs_lt (v : Nat) : ∀ x ∈ dgs (65536 ^ 4) v, x < 65536 ^ 4 := dgs_lt (by decide) v
theorem own_num5 {w : World} {b : Nat} {T : TypeId} {x : Value} {v : Nat} (h : w.ownsRow b T 1 x (dgs (65536 ^ 4) v).length (uCells (dgs (65536 ^ 4) v))) :
    ∃ B d, x = .slice B (dgs (65536 ^ 4) v).length d ∧ Num5 w B v := by
  obtain ⟨B, d, h1, h2, _⟩ := own_nsl h
  exact ⟨B, d, h1, h2⟩

set_option maxRecDepth 100000 in
set_option maxHeartbeats 1000000 in
theorem nof_any (n : Nat) (w : World) (hn : n < 65536 ^ 4) (q : Nat) (hq : (dgs (65536 ^ 4) n).length = q) :
    Calls Tryz.prog 75 #[.int .u64 n] w fun e w' => ∃ B d, e = .returned (.slice B q d) ∧ Num5 w' B n ∧ Below w.heap.size w w' := by
  have hT : Hid (∀ A c W, Nsl W A [n] → Calls Tryz.prog 101 #[.slice A 1 c] W fun e w' => ∃ B d, e = .returned (.slice B q d) ∧ Num5 w' B n ∧ Below W.heap.size W w') := fun A c W h => by
    refine (trim_any' [n] A 1 c W rfl (by simp) h (by simpa using hn)).mono ?_
    rintro e w' ⟨v, rfl, hown, hb⟩
    rw [show dv (65536 ^ 4) [n] = n from by show n + 65536 ^ 4 * 0 = n; omega] at hown
    obtain ⟨B, d, rfl, hB⟩ := own_num5 hown
    exact ⟨B, d, by rw [hq], hB, hb⟩
  have hN : Hid (Nsl (w.alloc (.cells #[.int .u64 n] 130)) (some ⟨w.heap.size, 0, none⟩) [n]) := fun _ => ⟨w.heap.size, 0, rfl, by simp, fun k x hx => by
    match k, hx with
    | 0, hx => simp at hx; subst hx; simp
    | k + 1, hx => simp at hx⟩
  have hb0 : Hid (Below w.heap.size w (w.alloc (.cells #[.int .u64 n] 130))) := (Below.refl _ _).alloc (Nat.le_refl _) _
  clear hn hq
  go_enter Tryz.func75, Tryz.ntmps75
  go_wp2_with fail
  refine (hT.out _ _ _ hN.out).mono ?_
  rintro e w1 ⟨B, d, rfl, hB, hb⟩
  go_wp2_with fail
  go_ret
  exact ⟨B, d, rfl, hB, hb0.out.trans (hb.mono (by simp))⟩

/-- One step of an addition. -/
theorem add_step (os X Y : List Nat) (k c x y : Nat) (h : dv 65536 os + 65536 ^ k * c = dv 65536 (X.take k) + dv 65536 (Y.take k)) (hl : os.length = k)
    (hx : dv 65536 (X.take (k + 1)) = dv 65536 (X.take k) + 65536 ^ k * x) (hy : dv 65536 (Y.take (k + 1)) = dv 65536 (Y.take k) + 65536 ^ k * y) :
    dv 65536 (os ++ [(c + x + y) % 65536]) + 65536 ^ (k + 1) * ((c + x + y) / 65536) = dv 65536 (X.take (k + 1)) + dv 65536 (Y.take (k + 1)) := by
  have e1 : dv 65536 (os ++ [(c + x + y) % 65536]) = dv 65536 os + 65536 ^ k * ((c + x + y) % 65536) := by
    rw [dv_append, hl]; show _ + _ * (_ + 65536 * 0) = _; rw [Nat.mul_zero, Nat.add_zero]
  rw [e1, hx, hy, Nat.pow_succ, Nat.mul_assoc]
  have e2 : 65536 ^ k * (65536 * ((c + x + y) / 65536)) + 65536 ^ k * ((c + x + y) % 65536) = 65536 ^ k * c + 65536 ^ k * x + 65536 ^ k * y := by
    rw [← Nat.mul_add, Nat.div_add_mod, Nat.mul_add, Nat.mul_add]
  omega
theorem take_has (X : List Nat) (k x : Nat) (h : X[k]? = some x) : dv 65536 (X.take (k + 1)) = dv 65536 (X.take k) + 65536 ^ k * x := by
  have hk := (List.getElem?_eq_some_iff.1 h).1
  rw [List.take_add_one, h]
  show dv 65536 (X.take k ++ [x]) = _
  rw [dv_append, List.length_take, Nat.min_eq_left (by omega)]; show _ + _ * (_ + 65536 * 0) = _; rw [Nat.mul_zero, Nat.add_zero]
theorem take_past (X : List Nat) (k : Nat) (h : X.length ≤ k) : dv 65536 (X.take (k + 1)) = dv 65536 (X.take k) + 65536 ^ k * 0 := by
  rw [List.take_of_length_le (by omega), List.take_of_length_le h, Nat.mul_zero, Nat.add_zero]

/-- What a round of Add keeps. -/
structure AddR (X Y os : List Nat) (k c : Nat) : Prop where
  len : os.length = k
  c1 : c ≤ 1
  sum : dv 65536 os + 65536 ^ k * c = dv 65536 (X.take k) + dv 65536 (Y.take k)
  lt : ∀ x ∈ os, x < 65536
  le : k ≤ max X.length Y.length + 1
  stop : k = max X.length Y.length + 1 → c = 0
theorem AddR.next {X Y os : List Nat} {k c x y : Nat} (h : AddR X Y os k c) (hx : dv 65536 (X.take (k + 1)) = dv 65536 (X.take k) + 65536 ^ k * x) (hy : dv 65536 (Y.take (k + 1)) = dv 65536 (Y.take k) + 65536 ^ k * y)
    (hx6 : x < 65536) (hy6 : y < 65536) (hgo : (k < X.length ∨ k < Y.length) ∨ (0 < c ∧ x = 0 ∧ y = 0)) : AddR X Y (os ++ [(c + x + y) % 65536]) (k + 1) ((c + x + y) / 65536) := by
  have c1 := h.c1; have le := h.le; have stop := h.stop
  refine ⟨by rw [List.length_append, h.len]; rfl, by omega, add_step os X Y k c x y h.sum h.len hx hy, fun z hz => ?_, ?_, fun hk => ?_⟩
  · rcases List.mem_append.1 hz with hz | hz
    · exact h.lt z hz
    · rw [List.mem_singleton.1 hz]; exact Nat.mod_lt _ (by decide)
  · rcases hgo with hgo | ⟨h0, _, _⟩
    · omega
    · have : k ≠ max X.length Y.length + 1 := fun e => by have := stop e; omega
      omega
  · rcases hgo with hgo | ⟨_, rfl, rfl⟩
    · omega
    · omega
theorem AddR.done {X Y os : List Nat} {k c : Nat} (h : AddR X Y os k c) (h1 : X.length ≤ k) (h2 : Y.length ≤ k) (h3 : c = 0) : dv 65536 os = dv 65536 X + dv 65536 Y := by
  have := h.sum
  rw [h3, Nat.mul_zero, Nat.add_zero, List.take_of_length_le h1, List.take_of_length_le h2] at this
  exact this
theorem digit_at {w : World} {A : Option Addr} {X : List Nat} {k : Nat} (h : Nsl w A X) (hk : k < X.length) : ∃ g o x, A = some ⟨g, o, none⟩ ∧ g < w.heap.size ∧ X[k]? = some x ∧ w.cell? ⟨g, o + k, none⟩ = some (.int .u64 x) := by
  obtain ⟨g, o, e, hg, hc⟩ := h (by intro e; rw [e] at hk; simp at hk)
  exact ⟨g, o, X[k], e, hg, List.getElem?_eq_getElem hk, hc k _ (List.getElem?_eq_getElem hk)⟩
end

/-! The walk of the reference's Add of naturals. -/
section
open Go.RowKit

/-- What a function that hands back a natural hands back. -/
def NatR (w : World) (q v : Nat) (e : Ending) (w' : World) : Prop := ∃ B d, e = .returned (.slice B q d) ∧ Num5 w' B v ∧ Below w.heap.size w w'

set_option maxRecDepth 100000 in
set_option maxHeartbeats 2000000 in
theorem nadd_any (x y : Nat) (A B : Option Addr) (m p c d : Nat) (w : World) (hx : x < 65536 ^ 4) (hy : y < 65536 ^ 4) (hm : (dgs (65536 ^ 4) x).length = m) (hp : (dgs (65536 ^ 4) y).length = p) (hA : Num5 w A x) (hB : Num5 w B y) (q : Nat) (hq : (dgs (65536 ^ 4) (x + y)).length = q) :
    Calls Tryz.prog 74 #[.slice A m c, .slice B p d] w (NatR w q (x + y)) := by
  have hm4 : m ≤ 1 := by rw [← hm]; exact dgs_few _ (by decide) 1 x (by rw [Nat.pow_one]; exact hx)
  have hp4 : p ≤ 1 := by rw [← hp]; exact dgs_few _ (by decide) 1 y (by rw [Nat.pow_one]; exact hy)
  have HDX : Hid (∀ W, Num5 W A x → Calls Tryz.prog 99 #[.slice A m c] W fun e w' => ∃ B d, e = .returned (.slice B (dgs 65536 x).length d) ∧ Nsl w' B (dgs 65536 x) ∧ Below W.heap.size W w') := fun W h => by
    subst hm
    refine (digits_any _ A c W (by omega) h (limbs_lt x)).mono ?_
    rw [dv_dgs4]
    rintro e w' ⟨B, d, rfl, h1, _, _, h4⟩
    exact ⟨B, d, rfl, h1, h4⟩
  have HDY : Hid (∀ W, Num5 W B y → Calls Tryz.prog 99 #[.slice B p d] W fun e w' => ∃ B d, e = .returned (.slice B (dgs 65536 y).length d) ∧ Nsl w' B (dgs 65536 y) ∧ Below W.heap.size W w') := fun W h => by
    subst hp
    refine (digits_any _ B d W (by omega) h (limbs_lt y)).mono ?_
    rw [dv_dgs4]
    rintro e w' ⟨B, d, rfl, h1, _, _, h4⟩
    exact ⟨B, d, rfl, h1, h4⟩
  have HJ : Hid (∀ os A n c W, Nsl W A os → os.length = n → n ≤ 10 → n ≤ c → (∀ z ∈ os, z < 65536) → dv 65536 os = x + y → Calls Tryz.prog 102 #[.slice A n c] W (NatR W q (x + y))) := fun os A n c W h1 h2 h3 h4 h5 h6 => by
    subst h2
    refine (njoin_any os A c W (by omega) h4 h1 h5).mono ?_
    rw [h6]
    rintro e w' ⟨v, rfl, hown, hb⟩
    obtain ⟨B, d, rfl, hB⟩ := own_num5 hown
    exact ⟨B, d, by rw [hq], hB, hb⟩
  have hXl : (dgs 65536 x).length ≤ 4 := dgs_few 65536 (by decide) 4 x hx
  have hYl : (dgs 65536 y).length ≤ 4 := dgs_few 65536 (by decide) 4 y hy
  have HXL : Hid (∀ z ∈ dgs 65536 x, z < 65536) := dgs_lt (by decide) x
  have HYL : Hid (∀ z ∈ dgs 65536 y, z < 65536) := dgs_lt (by decide) y
  have HXV : Hid (dv 65536 (dgs 65536 x) = x) := dv_dgs (by decide) x
  have HYV : Hid (dv 65536 (dgs 65536 y) = y) := dv_dgs (by decide) y
  clear hm hp hq hx hy
  generalize dgs 65536 x = X at *
  generalize dgs 65536 y = Y at *
  obtain ⟨i0, hi, hz0, hz1, hz2⟩ := info_parts (P := Tryz.prog) (e := 130) (z := .int .u64 0) (size := 1) (bytes := 8) (by kernel_rfl)
  have HU : Tryz.prog.underlying 101 = some (.slice 130) := by kernel_rfl
  have H0 : Hid (AddR X Y [] 0 0) := ⟨rfl, by omega, rfl, by simp, by omega, fun _ => rfl⟩
  go_enter Tryz.func74, Tryz.ntmps74
  go_wp2_with fail
  refine (HDX.out _ hA).mono ?_
  rintro e w1 ⟨A1, d1, rfl, hX1, hb1⟩
  go_wp2_with fail
  refine (HDY.out _ (hB.below hb1)).mono ?_
  rintro e w2 ⟨A2, d2, rfl, hY, hb2⟩
  have hX := hX1.below hb2
  have hbw2 := hb1.trans (hb2.mono hb1.size)
  clear hb1 hb2 hX1 hA hB HDX HDY
  go_wp2_with fail
  go_loopw [7, 8, 9] (fun o cv i wr => ∃ (k cc : Nat) (os : List Nat), cv = .int .u64 cc ∧ i = .int .i64 k ∧ wr.ownsRow w2.heap.size 130 1 o os.length (uCells os) ∧ Hid (AddR X Y os k cc) ∧ Below w2.heap.size w2 wr) (fun _ _ i _ => max X.length Y.length + 2 - (intOf i).toNat)
  case atStart => exact ⟨0, 0, [], rfl, rfl, World.ownsRow_nil _ _ _ _, H0.out, Below.refl _ _⟩
  case round =>
    obtain ⟨k, cc, os, rfl, rfl, hown, HA, hbr⟩ := hrel
    have hbw : Below w.heap.size w wr := hbw2.trans (hbr.mono hbw2.size)
    have hXr := hX.below hbr
    have hYr := hY.below hbr
    have hc1 := HA.out.c1
    have hol := HA.out.len
    have hkl := HA.out.le
    clear hX hY
    by_cases hp : k < X.length
    · by_cases hq : k < Y.length

      · obtain ⟨gx, ox, x', rfl, hgx, hx', cx⟩ := digit_at hXr hp
        have hx6 := HXL.out x' (List.mem_of_getElem? hx')
        have hxi : (k : Int) < (X.length : Int) := by omega
        obtain ⟨gy, oy, y', rfl, hgy, hy', cy⟩ := digit_at hYr hq
        have hy6 := HYL.out y' (List.mem_of_getElem? hy')
        have hyi : (k : Int) < (Y.length : Int) := by omega
        have hE : (((cc + x' + y') % 65536 : Nat) : Int) = ((cc : Int) + (x' : Int) + (y' : Int)) % 65536 := by omega
        have hE2 : (((cc + x' + y') / 65536 : Nat) : Int) = ((cc : Int) + (x' : Int) + (y' : Int)) / 65536 := by omega
        have HN := Lib.hid (HA.out.next (take_has X k x' hx') (take_has Y k y' hy') hx6 hy6 (.inl (.inl hp)))
        have HE := Lib.hid hE; have HE2 := Lib.hid hE2
        clear hE hE2
        go_wp2_with (first
          | (at_builtin; refine wpList_append_own _ rfl _ _ 101 rfl w2.heap.size 130 i0 (.int .u64 0) 1 8 HU hi hz0 hz1 hz2 rfl (by decide) _ _ _ rfl (hown.alloc _) ⟨wr.heap.size, 0, none⟩ 1 1 [.int .u64 (((cc : Int) + (x' : Int) + (y' : Int)) % 65536)] rfl rfl ?_ ?_ ?_ ?_ ?_ ?_
             · exact one_new _ _ _
             · exact (fun x hx => by simp at hx; subst hx; rfl)
             · unfold maxLen; omega
             · omega
             · have := hbr.size; simp at this ⊢; omega
             intro v' w3 hown' hgrow3 hnil3
             have hal := hown.alloc (.cells #[.int .u64 (((cc : Int) + (x' : Int) + (y' : Int)) % 65536)] 130)
             have hb3 := Below.grown (hbr.alloc hbr.size (.cells #[.int .u64 (((cc : Int) + (x' : Int) + (y' : Int)) % 65536)] 130)) hgrow3 (Nat.le_trans hbr.size (by simp)) (fun j hj => (hal.lt _ hj).1)
             have XX := Lib.hid (And.intro hown' hb3)
             clear hown' hb3 hgrow3 hnil3 hal))
        go_roundw
        case rel => exact ⟨k + 1, _, _, by rw [HE2.out], by go_num, by rw [uCells_append, List.length_append]; show World.ownsRow _ _ _ _ _ _ (uCells os ++ [Value.int .u64 (((cc + x' + y') % 65536 : Nat) : Int)]); rw [HE.out]; exact XX.out.1, HN.out, XX.out.2⟩
        case measure => simp [intOf]; omega
      · obtain ⟨gx, ox, x', rfl, hgx, hx', cx⟩ := digit_at hXr hp
        have hx6 := HXL.out x' (List.mem_of_getElem? hx')
        have hxi : (k : Int) < (X.length : Int) := by omega
        have hyi : ¬ (k : Int) < (Y.length : Int) := by omega
        have hE : (((cc + x' + 0) % 65536 : Nat) : Int) = ((cc : Int) + (x' : Int)) % 65536 := by omega
        have hE2 : (((cc + x' + 0) / 65536 : Nat) : Int) = ((cc : Int) + (x' : Int)) / 65536 := by omega
        have HN := Lib.hid (HA.out.next (take_has X k x' hx') (take_past Y k (by omega)) hx6 (by decide) (.inl (.inl hp)))
        have HE := Lib.hid hE; have HE2 := Lib.hid hE2
        clear hE hE2
        go_wp2_with (first
          | (at_builtin; refine wpList_append_own _ rfl _ _ 101 rfl w2.heap.size 130 i0 (.int .u64 0) 1 8 HU hi hz0 hz1 hz2 rfl (by decide) _ _ _ rfl (hown.alloc _) ⟨wr.heap.size, 0, none⟩ 1 1 [.int .u64 (((cc : Int) + (x' : Int)) % 65536)] rfl rfl ?_ ?_ ?_ ?_ ?_ ?_
             · exact one_new _ _ _
             · exact (fun x hx => by simp at hx; subst hx; rfl)
             · unfold maxLen; omega
             · omega
             · have := hbr.size; simp at this ⊢; omega
             intro v' w3 hown' hgrow3 hnil3
             have hal := hown.alloc (.cells #[.int .u64 (((cc : Int) + (x' : Int)) % 65536)] 130)
             have hb3 := Below.grown (hbr.alloc hbr.size (.cells #[.int .u64 (((cc : Int) + (x' : Int)) % 65536)] 130)) hgrow3 (Nat.le_trans hbr.size (by simp)) (fun j hj => (hal.lt _ hj).1)
             have XX := Lib.hid (And.intro hown' hb3)
             clear hown' hb3 hgrow3 hnil3 hal))
        go_roundw
        case rel => exact ⟨k + 1, _, _, by rw [HE2.out], by go_num, by rw [uCells_append, List.length_append]; show World.ownsRow _ _ _ _ _ _ (uCells os ++ [Value.int .u64 (((cc + x' + 0) % 65536 : Nat) : Int)]); rw [HE.out]; exact XX.out.1, HN.out, XX.out.2⟩
        case measure => simp [intOf]; omega
    · by_cases hq : k < Y.length
      · obtain ⟨gy, oy, y', rfl, hgy, hy', cy⟩ := digit_at hYr hq
        have hy6 := HYL.out y' (List.mem_of_getElem? hy')
        have hyi : (k : Int) < (Y.length : Int) := by omega
        have hxi : ¬ (k : Int) < (X.length : Int) := by omega
        have hE : (((cc + 0 + y') % 65536 : Nat) : Int) = ((cc : Int) + (y' : Int)) % 65536 := by omega
        have hE2 : (((cc + 0 + y') / 65536 : Nat) : Int) = ((cc : Int) + (y' : Int)) / 65536 := by omega
        have HN := Lib.hid (HA.out.next (take_past X k (by omega)) (take_has Y k y' hy') (by decide) hy6 (.inl (.inr hq)))
        have HE := Lib.hid hE; have HE2 := Lib.hid hE2
        clear hE hE2
        go_wp2_with (first
          | (at_builtin; refine wpList_append_own _ rfl _ _ 101 rfl w2.heap.size 130 i0 (.int .u64 0) 1 8 HU hi hz0 hz1 hz2 rfl (by decide) _ _ _ rfl (hown.alloc _) ⟨wr.heap.size, 0, none⟩ 1 1 [.int .u64 (((cc : Int) + (y' : Int)) % 65536)] rfl rfl ?_ ?_ ?_ ?_ ?_ ?_
             · exact one_new _ _ _
             · exact (fun x hx => by simp at hx; subst hx; rfl)
             · unfold maxLen; omega
             · omega
             · have := hbr.size; simp at this ⊢; omega
             intro v' w3 hown' hgrow3 hnil3
             have hal := hown.alloc (.cells #[.int .u64 (((cc : Int) + (y' : Int)) % 65536)] 130)
             have hb3 := Below.grown (hbr.alloc hbr.size (.cells #[.int .u64 (((cc : Int) + (y' : Int)) % 65536)] 130)) hgrow3 (Nat.le_trans hbr.size (by simp)) (fun j hj => (hal.lt _ hj).1)
             have XX := Lib.hid (And.intro hown' hb3)
             clear hown' hb3 hgrow3 hnil3 hal))
        go_roundw
        case rel => exact ⟨k + 1, _, _, by rw [HE2.out], by go_num, by rw [uCells_append, List.length_append]; show World.ownsRow _ _ _ _ _ _ (uCells os ++ [Value.int .u64 (((cc + 0 + y') % 65536 : Nat) : Int)]); rw [HE.out]; exact XX.out.1, HN.out, XX.out.2⟩
        case measure => simp [intOf]; omega
      · by_cases h0 : 0 < cc
        · have hxi : ¬ (k : Int) < (X.length : Int) := by omega
          have hyi : ¬ (k : Int) < (Y.length : Int) := by omega
          have h0i : (0 : Int) < (cc : Int) := by omega
          have hE : (((cc + 0 + 0) % 65536 : Nat) : Int) = ((cc : Int)) % 65536 := by omega
          have hE2 : (((cc + 0 + 0) / 65536 : Nat) : Int) = ((cc : Int)) / 65536 := by omega
          have HN := Lib.hid (HA.out.next (take_past X k (by omega)) (take_past Y k (by omega)) (by decide) (by decide) (.inr ⟨h0, rfl, rfl⟩))
          have HE := Lib.hid hE; have HE2 := Lib.hid hE2
          clear hE hE2
          go_wp2_with (first
            | (at_builtin; refine wpList_append_own _ rfl _ _ 101 rfl w2.heap.size 130 i0 (.int .u64 0) 1 8 HU hi hz0 hz1 hz2 rfl (by decide) _ _ _ rfl (hown.alloc _) ⟨wr.heap.size, 0, none⟩ 1 1 [.int .u64 (((cc : Int)) % 65536)] rfl rfl ?_ ?_ ?_ ?_ ?_ ?_
               · exact one_new _ _ _
               · exact (fun x hx => by simp at hx; subst hx; rfl)
               · unfold maxLen; omega
               · omega
               · have := hbr.size; simp at this ⊢; omega
               intro v' w3 hown' hgrow3 hnil3
               have hal := hown.alloc (.cells #[.int .u64 (((cc : Int)) % 65536)] 130)
               have hb3 := Below.grown (hbr.alloc hbr.size (.cells #[.int .u64 (((cc : Int)) % 65536)] 130)) hgrow3 (Nat.le_trans hbr.size (by simp)) (fun j hj => (hal.lt _ hj).1)
               have XX := Lib.hid (And.intro hown' hb3)
               clear hown' hb3 hgrow3 hnil3 hal))
          go_roundw
          case rel => exact ⟨k + 1, _, _, by rw [HE2.out], by go_num, by rw [uCells_append, List.length_append]; show World.ownsRow _ _ _ _ _ _ (uCells os ++ [Value.int .u64 (((cc + 0 + 0) % 65536 : Nat) : Int)]); rw [HE.out]; exact XX.out.1, HN.out, XX.out.2⟩
          case measure => simp [intOf]; omega
        · have hxi : ¬ (k : Int) < (X.length : Int) := by omega
          have hyi : ¬ (k : Int) < (Y.length : Int) := by omega
          obtain rfl : cc = 0 := by omega
          have hd := HA.out.done (by omega) (by omega) rfl
          rw [HXV.out, HYV.out] at hd
          obtain ⟨OA, oc, rfl, hO, hoc⟩ := own_nsl hown
          have HJJ := Lib.hid (HJ.out os OA os.length oc wr hO rfl (by omega) hoc HA.out.lt hd)
          have HB := Lib.hid hbw
          clear HJ hd hown hbw hXr hYr HA H0 hbr hol
          go_wp2_with fail
          refine HJJ.out.mono ?_
          rintro e w4 ⟨B4, d4, rfl, hB4, hb4⟩
          go_wp2_with fail
          go_ret
          exact ⟨B4, d4, rfl, hB4, HB.out.trans (hb4.mono HB.out.size)⟩
end

/-! The walks of the reference's Of, Sign and Show of whole numbers. -/
section
open Go.RowKit

/-- What a function that hands back a whole number hands back. -/
def IntR (w : World) (q : Nat) (neg : Bool) (v : Nat) (e : Ending) (w' : World) : Prop := ∃ B d, e = .returned (.agg #[.bool neg, .slice B q d]) ∧ Num5 w' B v ∧ Below w.heap.size w w'
theorem make_fit (neg : Bool) (v q : Nat) (B : Option Addr) (c : Nat) (w : World) (h : Num5 w B v) (hq : (dgs (65536 ^ 4) v).length = q) (h100 : q ≤ 100) (r : Bool) (hr : (neg && decide (0 < v)) = r) :
    Calls Tryz.prog 73 #[.bool neg, .slice B q c] w (IntR w q r v) := by
  refine (make_any neg (dgs (65536 ^ 4) v) B q c w hq (by omega) h (limbs_lt v)).mono ?_
  rw [dv_dgs4, hr]
  rintro e w' ⟨x, rfl, ⟨B', d', rfl, hB, _⟩, hb⟩
  exact ⟨B', d', by rw [hq], hB, hb⟩
theorem nof_int (z : Int) (n : Nat) (hz : z = n) (w : World) (hn : n < 65536 ^ 4) (q : Nat) (hq : (dgs (65536 ^ 4) n).length = q) :
    Calls Tryz.prog 75 #[.int .u64 z] w (NatR w q n) := by
  subst hz
  exact nof_any n w hn q hq
theorem limbs_one (v : Nat) (h : v < 65536 ^ 4) : (dgs (65536 ^ 4) v).length ≤ 1 := dgs_few _ (by decide) 1 v (by rw [Nat.pow_one]; exact h)
theorem Blk.set2 {w : World} {g : Nat} {t : TypeId} {a b : Value} (h : Blk w g t #[a, b]) (a' b' : Value) : Blk ((w.setCell ⟨g, 0, none⟩ a').setCell ⟨g, 1, none⟩ b') g t #[a', b'] := by
  have h1 : Blk (w.setCell ⟨g, 0, none⟩ a') g t #[a', b] := h.set_ 0 a'
  exact h1.set_ 1 b'
theorem below_set2 {B : Nat} {a w : World} {g : Nat} (h : Below B a w) (hg : B ≤ g) (a' b' : Value) : Below B a ((w.setCell ⟨g, 0, none⟩ a').setCell ⟨g, 1, none⟩ b') :=
  (h.setCell (p := ⟨g, 0, none⟩) hg _).setCell (p := ⟨g, 1, none⟩) hg _
theorem Num5.set2 {w : World} {B : Option Addr} {v g : Nat} {A : World} (h : Num5 w B v) (hge : ∀ a, B = some a → a.block ≠ g) (a' b' : Value) : Num5 ((w.setCell ⟨g, 0, none⟩ a').setCell ⟨g, 1, none⟩ b') B v :=
  Nsl.set_ (Nsl.set_ h (p := ⟨g, 0, none⟩) hge _) (p := ⟨g, 1, none⟩) hge _
/-- As make_fit; the new row is beyond. -/
theorem make_far (neg : Bool) (v q : Nat) (B : Option Addr) (c : Nat) (w : World) (h : Num5 w B v) (hq : (dgs (65536 ^ 4) v).length = q) (h100 : q ≤ 100) (r : Bool) (hr : (neg && decide (0 < v)) = r) :
    Calls Tryz.prog 73 #[.bool neg, .slice B q c] w fun e w' => ∃ B d, e = .returned (.agg #[.bool r, .slice B q d]) ∧ Num5 w' B v ∧ Below w.heap.size w w' ∧ ∀ a, B = some a → w.heap.size ≤ a.block := by
  refine (make_any neg (dgs (65536 ^ 4) v) B q c w hq (by omega) h (limbs_lt v)).mono ?_
  rw [dv_dgs4, hr]
  rintro e w' ⟨x, rfl, ⟨B', d', rfl, hB, hge⟩, hb⟩
  exact ⟨B', d', by rw [hq], hB, hb, hge⟩

set_option maxRecDepth 100000 in
set_option maxHeartbeats 1000000 in
theorem iof_pos (n : Nat) (w : World) (h : n ≤ 9223372036854775807) (q : Nat) (hq : (dgs (65536 ^ 4) n).length = q) :
    Calls Tryz.prog 51 #[.int .i64 n] w (IntR w q false n) := by
  have hn4 : n < 65536 ^ 4 := Nat.lt_of_le_of_lt h (by decide)
  have hq1 : q ≤ 1 := by rw [← hq]; exact limbs_one n hn4
  have H1 : Hid (∀ z W, z = (n : Int) → Calls Tryz.prog 75 #[.int .u64 z] W (NatR W q n)) := fun z W hz => nof_int z n hz W hn4 q hq
  have H2 : Hid (∀ B c W, Num5 W B n → Calls Tryz.prog 73 #[.bool false, .slice B q c] W fun e w' => ∃ B d, e = .returned (.agg #[.bool false, .slice B q d]) ∧ Num5 w' B n ∧ Below W.heap.size W w' ∧ ∀ a, B = some a → W.heap.size ≤ a.block) := fun B c W h => make_far false n q B c W h hq (by omega) false rfl
  have n0 : (0 : Int) ≤ (n : Int) := by omega
  have n1 : (n : Int) ≤ 9223372036854775807 := by omega
  have n2 : ¬ (n : Int) < 0 := by omega
  have hb0 : Hid (Below w.heap.size w (w.alloc (.cells #[.bool false, .slice none 0 0] 104))) := (Below.refl _ _).alloc (Nat.le_refl _) _
  have hk0 := Lib.hid (Blk.new w 104 #[.bool false, .slice none 0 0])
  clear hn4 hq h
  go_enter Tryz.func51, Tryz.ntmps51
  go_wp2_with fail
  refine (H1.out _ _ (by first | rfl | omega)).mono ?_
  rintro e w1 ⟨B, d, rfl, hB, hb1⟩
  go_wp2_with fail
  refine (H2.out _ _ _ hB).mono ?_
  rintro e w2 ⟨B2, d2, rfl, hB2, hb2, hge⟩
  have hx := hb1.trans (hb2.mono hb1.size)
  have hx0 := hb0.out.trans (hx.mono (by simp))
  have hblk := hk0.out.below hx (by simp)
  have hge2 : ∀ a, B2 = some a → a.block ≠ w.heap.size := fun a ha e => by have h1 := hge a ha; have h2 := hb1.size; simp at h2; omega
  have HF := Lib.hid (And.intro (hB2.set2 (A := w) hge2 (.bool false) (.slice B2 q d2)) (below_set2 hx0 (Nat.le_refl _) (.bool false) (.slice B2 q d2)))
  have c0 := hblk.cell 0; have c1 := hblk.cell 1
  have f0 := hblk.frozen 0; have f1 := hblk.frozen 1
  have r0 := (hblk.set2 (.bool false) (.slice B2 q d2)).cell 0
  have r1 := (hblk.set2 (.bool false) (.slice B2 q d2)).cell 1
  have HR := Lib.hid (And.intro r0 r1)
  clear r0 r1 hge hge2 hblk hx hx0 hb1 hb2 hB hB2 H1 H2
  generalize hg : w.heap.size = g at *
  have HG := Lib.hid hg; clear hg
  go_wp2_with fail
  obtain ⟨r0, r1⟩ := HR.out
  refine bodyPost_ret (v := .agg #[.bool false, .slice B2 q d2]) (by simp [results, Tryz.results51, go_sem, r0, r1]) rfl ⟨B2, d2, rfl, HF.out.1, ?_⟩
  rw [HG.out]
  exact HF.out.2

set_option maxRecDepth 100000 in
set_option maxHeartbeats 1000000 in
theorem iof_neg (z : Int) (n : Nat) (hz : z = -(n : Int)) (w : World) (h0 : 0 < n) (h : n ≤ 9223372036854775808) (q : Nat) (hq : (dgs (65536 ^ 4) n).length = q) :
    Calls Tryz.prog 51 #[.int .i64 z] w (IntR w q true n) := by
  obtain ⟨m, rfl⟩ : ∃ m, n = m + 1 := ⟨n - 1, by omega⟩
  have hm4 : m < 65536 ^ 4 := Nat.lt_of_lt_of_le (show m < 9223372036854775808 by omega) (by decide)
  have hn4 : m + 1 < 65536 ^ 4 := Nat.lt_of_le_of_lt h (by decide)
  have hq1 : q ≤ 1 := by rw [← hq]; exact limbs_one _ hn4
  have H1 : Hid (∀ y W, y = (m : Int) → Calls Tryz.prog 75 #[.int .u64 y] W (NatR W (dgs (65536 ^ 4) m).length m)) := fun y W hy => nof_int y m hy W hm4 _ rfl
  have H1b : Hid (∀ W, Calls Tryz.prog 75 #[.int .u64 1] W (NatR W (dgs (65536 ^ 4) 1).length 1)) := fun W => nof_int 1 1 rfl W (by decide) _ rfl
  have HA : Hid (∀ A B c d W, Num5 W A m → Num5 W B 1 → Calls Tryz.prog 74 #[.slice A (dgs (65536 ^ 4) m).length c, .slice B (dgs (65536 ^ 4) 1).length d] W (NatR W q (m + 1))) := fun A B c d W h1 h2 => nadd_any m 1 A B _ _ c d W hm4 (by decide) rfl rfl h1 h2 q hq
  have H2 : Hid (∀ B c W, Num5 W B (m + 1) → Calls Tryz.prog 73 #[.bool true, .slice B q c] W fun e w' => ∃ B d, e = .returned (.agg #[.bool true, .slice B q d]) ∧ Num5 w' B (m + 1) ∧ Below W.heap.size W w' ∧ ∀ a, B = some a → W.heap.size ≤ a.block) := fun B c W h => make_far true (m + 1) q B c W h hq (by omega) true (by simp)
  have n1 : z < 0 := by omega
  have n2 : -9223372036854775808 ≤ z := by omega
  have HZ : Hid (-(z + 1) = (m : Int)) := by show _ = _; omega
  have hb0 : Hid (Below w.heap.size w (w.alloc (.cells #[.bool false, .slice none 0 0] 104))) := (Below.refl _ _).alloc (Nat.le_refl _) _
  have hk0 := Lib.hid (Blk.new w 104 #[.bool false, .slice none 0 0])
  clear hn4 hm4 hq h hz
  generalize (dgs (65536 ^ 4) m).length = p at *
  generalize (dgs (65536 ^ 4) 1).length = p1 at *
  go_enter Tryz.func51, Tryz.ntmps51
  go_wp2_with fail
  refine (H1.out _ _ (by have := HZ.out; omega)).mono ?_
  rintro e w1 ⟨B1, d1, rfl, hB1, hb1⟩
  go_wp2_with fail
  refine (H1b.out _).mono ?_
  rintro e w2 ⟨B2, d2, rfl, hB2, hb2⟩
  go_wp2_with fail
  refine (HA.out _ _ _ _ _ (hB1.below hb2) hB2).mono ?_
  rintro e w3 ⟨B3, d3, rfl, hB3, hb3⟩
  go_wp2_with fail
  refine (H2.out _ _ _ hB3).mono ?_
  rintro e w4 ⟨B4, d4, rfl, hB4, hb4, hge⟩
  have hx3 := hb1.trans ((hb2.trans (hb3.mono hb2.size)).mono hb1.size)
  have hx := hx3.trans (hb4.mono hx3.size)
  have hx0 := hb0.out.trans (hx.mono (by simp))
  have hblk := hk0.out.below hx (by simp)
  have hge2 : ∀ a, B4 = some a → a.block ≠ w.heap.size := fun a ha e => by have h1 := hge a ha; have h2 := hx3.size; simp at h2; omega
  have HF := Lib.hid (And.intro (hB4.set2 (A := w) hge2 (.bool true) (.slice B4 q d4)) (below_set2 hx0 (Nat.le_refl _) (.bool true) (.slice B4 q d4)))
  have c0 := hblk.cell 0; have c1 := hblk.cell 1
  have f0 := hblk.frozen 0; have f1 := hblk.frozen 1
  have r0 := (hblk.set2 (.bool true) (.slice B4 q d4)).cell 0
  have r1 := (hblk.set2 (.bool true) (.slice B4 q d4)).cell 1
  have HR := Lib.hid (And.intro r0 r1)
  clear r0 r1 hge hge2 hblk hx hx0 hx3 hb1 hb2 hb3 hb4 hB1 hB2 hB3 hB4 H1 H1b H2 HA
  generalize hg : w.heap.size = g at *
  have HG := Lib.hid hg; clear hg
  go_wp2_with fail
  obtain ⟨r0, r1⟩ := HR.out
  refine bodyPost_ret (v := .agg #[.bool true, .slice B4 q d4]) (by simp [results, Tryz.results51, go_sem, r0, r1]) rfl ⟨B4, d4, rfl, HF.out.1, ?_⟩
  rw [HG.out]
  exact HF.out.2

set_option maxRecDepth 100000 in
set_option maxHeartbeats 1000000 in
theorem sign_any (neg : Bool) (v q : Nat) (B : Option Addr) (c : Nat) (w : World) (h : Num5 w B v) (hq : (dgs (65536 ^ 4) v).length = q) (h100 : q ≤ 100) (hn : neg = true → 0 < v) (s : Int) (hs : s = if v = 0 then 0 else if neg = true then -1 else 1) :
    Calls Tryz.prog 71 #[.agg #[.bool neg, .slice B q c]] w fun e w' => e = .returned (.int .i64 s) ∧ Below w.heap.size w w' := by
  have hr : (neg && decide (0 < v)) = neg := by
    cases neg with
    | false => rfl
    | true => rw [decide_eq_true (hn rfl)]; rfl
  have H2 : Hid (∀ B c W, Num5 W B v → Calls Tryz.prog 73 #[.bool neg, .slice B q c] W fun e w' => ∃ B d, e = .returned (.agg #[.bool neg, .slice B q d]) ∧ Num5 w' B v ∧ Below W.heap.size W w' ∧ ∀ a, B = some a → W.heap.size ≤ a.block) := fun B c W h => make_far neg v q B c W h hq h100 neg hr
  have hq0 : q = 0 ↔ v = 0 := by rw [← hq, List.length_eq_zero_iff]; exact dgs_nil (by decide) v
  have hb0 : Hid (Below w.heap.size w (w.alloc (.cells #[.bool neg, .slice B q c] 104))) := (Below.refl _ _).alloc (Nat.le_refl _) _
  have hk0 := Lib.hid (Blk.new w 104 #[.bool neg, .slice B q c])
  have hB := Lib.hid (h.alloc (.cells #[.bool neg, .slice B q c] 104))
  have hcase : (s = 0 ∧ ((q : Int) == 0) = true) ∨ (((q : Int) == 0) = false ∧ ((neg = true ∧ s = -1) ∨ (neg = false ∧ s = 1))) := by
    by_cases hv : v = 0
    · rw [if_pos hv] at hs
      exact .inl ⟨hs, beq_iff_eq.2 (by have := hq0.2 hv; omega)⟩
    · rw [if_neg hv] at hs
      refine .inr ⟨beq_eq_false_iff_ne.2 (by have : q ≠ 0 := fun e => hv (hq0.1 e); omega), ?_⟩
      cases neg with
      | true => rw [if_pos rfl] at hs; exact .inl ⟨rfl, hs⟩
      | false => rw [if_neg (by simp)] at hs; exact .inr ⟨rfl, hs⟩
  clear hq hr hq0 h hn hs
  rcases hcase with ⟨rfl, hq⟩ | ⟨hq, ⟨hneg, rfl⟩ | ⟨hneg, rfl⟩⟩
  · go_enter Tryz.func71, Tryz.ntmps71
    go_wp2_with fail
    refine (H2.out _ _ _ hB.out).mono ?_
    rintro e w1 ⟨B1, d1, rfl, hB1, hb1, _⟩
    have hx := hb0.out.trans (hb1.mono (by simp))
    have hblk := hk0.out.below hb1 (by simp)
    have c0 := hblk.cell 0; have c1 := hblk.cell 1
    have f0 := hblk.frozen 0; have f1 := hblk.frozen 1
    have r0 := (hblk.set2 (.bool neg) (.slice B1 q d1)).cell 0
    have r1 := (hblk.set2 (.bool neg) (.slice B1 q d1)).cell 1
    have HB := Lib.hid hx
    clear hx hblk hb1 hB1
    generalize hg : w.heap.size = g at *
    have HG := Lib.hid hg; clear hg
    go_wp2_with fail
    go_ret
    refine ⟨rfl, ?_⟩
    rw [HG.out]
    exact below_set2 HB.out (Nat.le_refl _) _ _
  · have HNEG := Lib.hid hneg; clear hneg
    go_enter Tryz.func71, Tryz.ntmps71
    go_wp2_with fail
    refine (H2.out _ _ _ hB.out).mono ?_
    rintro e w1 ⟨B1, d1, rfl, hB1, hb1, _⟩
    have hx := hb0.out.trans (hb1.mono (by simp))
    have hblk := hk0.out.below hb1 (by simp)
    have c0 := hblk.cell 0; have c1 := hblk.cell 1
    have f0 := hblk.frozen 0; have f1 := hblk.frozen 1
    have r0 := (hblk.set2 (.bool neg) (.slice B1 q d1)).cell 0
    have r1 := (hblk.set2 (.bool neg) (.slice B1 q d1)).cell 1
    have HB := Lib.hid hx
    clear hx hblk hb1 hB1
    have hneg := HNEG.out
    generalize hg : w.heap.size = g at *
    have HG := Lib.hid hg; clear hg
    go_wp2_with fail
    go_ret
    refine ⟨rfl, ?_⟩
    rw [HG.out]
    exact below_set2 HB.out (Nat.le_refl _) _ _
  · have HNEG := Lib.hid hneg; clear hneg
    go_enter Tryz.func71, Tryz.ntmps71
    go_wp2_with fail
    refine (H2.out _ _ _ hB.out).mono ?_
    rintro e w1 ⟨B1, d1, rfl, hB1, hb1, _⟩
    have hx := hb0.out.trans (hb1.mono (by simp))
    have hblk := hk0.out.below hb1 (by simp)
    have c0 := hblk.cell 0; have c1 := hblk.cell 1
    have f0 := hblk.frozen 0; have f1 := hblk.frozen 1
    have r0 := (hblk.set2 (.bool neg) (.slice B1 q d1)).cell 0
    have r1 := (hblk.set2 (.bool neg) (.slice B1 q d1)).cell 1
    have HB := Lib.hid hx
    clear hx hblk hb1 hB1
    have hneg := HNEG.out
    generalize hg : w.heap.size = g at *
    have HG := Lib.hid hg; clear hg
    go_wp2_with fail
    go_ret
    refine ⟨rfl, ?_⟩
    rw [HG.out]
    exact below_set2 HB.out (Nat.le_refl _) _ _
end

/-! The walk of the reference's Show of whole numbers; what its Show of marks tells is the program's, in plain Lean. -/
section
open Go.RowKit

/-- The numeral of a sign and a magnitude. -/
def itoaS (neg : Bool) (v : Nat) : List UInt8 := if neg = true then 45 :: Lib.decDigits v else Lib.decDigits v
theorem itoa_pos (n : Nat) : Lib.itoa (n : Int) = itoaS false n := by
  unfold Lib.itoa itoaS
  rw [if_neg (by omega), Int.toNat_natCast, if_neg (by simp)]
theorem itoa_neg (z : Int) (n : Nat) (hz : z = -(n : Int)) (h : 0 < n) : Lib.itoa z = itoaS true n := by
  unfold Lib.itoa itoaS
  rw [if_pos (by omega), if_pos rfl, show z.natAbs = n by omega]

theorem rshow4_fit (v q : Nat) (B : Option Addr) (c : Nat) (w : World) (h : Num5 w B v) (hq : (dgs (65536 ^ 4) v).length = q) (hv : v < 65536 ^ 4) :
    Calls Tryz.prog 72 #[.slice B q c] w fun e w' => e = .returned (.string (bs (Lib.decDigits v))) ∧ Below w.heap.size w w' := by
  rcases Nat.eq_zero_or_pos v with h0 | h0
  · subst h0
    rw [dgs_zero] at hq
    subst hq
    exact rshow4_zero B c w
  · have hl := limbs_one v hv
    exact rshow4_any (dgs (65536 ^ 4) v) B q c w hq (by omega) h (limbs_lt v) v (dv_dgs4 v) h0 hv

set_option maxRecDepth 100000 in
set_option maxHeartbeats 1000000 in
theorem rshow5_any (neg : Bool) (v q : Nat) (B : Option Addr) (c : Nat) (w : World) (h : Num5 w B v) (hq : (dgs (65536 ^ 4) v).length = q) (hv : v < 65536 ^ 4) (hn : neg = true → 0 < v) (X : List UInt8) (hX : itoaS neg v = X) :
    Calls Tryz.prog 50 #[.agg #[.bool neg, .slice B q c]] w fun e w' => e = .returned (.string (bs X)) ∧ Below w.heap.size w w' := by
  have hq1 : q ≤ 1 := by rw [← hq]; exact limbs_one v hv
  obtain ⟨s, hs⟩ : ∃ s : Int, s = if v = 0 then 0 else if neg = true then -1 else 1 := ⟨_, rfl⟩
  have HS : Hid (∀ B c W, Num5 W B v → Calls Tryz.prog 71 #[.agg #[.bool neg, .slice B q c]] W fun e w' => e = .returned (.int .i64 s) ∧ Below W.heap.size W w') := fun B c W h => sign_any neg v q B c W h hq (by omega) hn s hs
  have H4 : Hid (∀ B c W, Num5 W B v → Calls Tryz.prog 72 #[.slice B q c] W fun e w' => e = .returned (.string (bs (Lib.decDigits v))) ∧ Below W.heap.size W w') := fun B c W h => rshow4_fit v q B c W h hq hv
  have hcase : (neg = true ∧ s < 0 ∧ X = 45 :: Lib.decDigits v) ∨ (¬ s < 0 ∧ X = Lib.decDigits v) := by
    unfold itoaS at hX
    cases hneg : neg with
    | true =>
      rw [hneg, if_pos rfl] at hX
      have := hn hneg
      rw [if_neg (by omega), if_pos hneg] at hs
      exact .inl ⟨rfl, by omega, hX.symm⟩
    | false =>
      rw [hneg, if_neg (by simp)] at hX
      refine .inr ⟨?_, hX.symm⟩
      rw [hneg] at hs
      by_cases h0 : v = 0
      · rw [if_pos h0] at hs; omega
      · rw [if_neg h0, if_neg (by simp)] at hs; omega
  have hB := Lib.hid (h.alloc (.cells #[.bool neg, .slice B q c] 104))
  have hk0 := Lib.hid (Blk.new w 104 #[.bool neg, .slice B q c])
  have hb0 : Hid (Below w.heap.size w (w.alloc (.cells #[.bool neg, .slice B q c] 104))) := (Below.refl _ _).alloc (Nat.le_refl _) _
  have hdl : (Lib.decDigits v).length ≤ 1000 := by
    rcases Nat.eq_zero_or_pos v with h0 | h0
    · subst h0; decide +kernel
    · rw [dec_dgs v h0, List.length_map, List.length_reverse]
      exact Nat.le_trans (dgs_few 10 (by decide) 20 v (Nat.lt_of_lt_of_le hv (by decide))) (by omega)
  clear hX hs hq hv hn h
  generalize Lib.decDigits v = D at *
  have hD : (⟨#[45]⟩ : ByteArray) ++ bs D = bs (45 :: D) := bs_append [45] D
  have hz : ¬ 9223372036854775807 < 1 + (bs D).size := by rw [bs_size]; omega
  rcases hcase with ⟨hneg, hs, rfl⟩ | ⟨hs, rfl⟩
  · have HNEG := Lib.hid hneg; clear hneg
    generalize 45 :: D = Y at *
    go_enter Tryz.func50, Tryz.ntmps50
    go_wp2_with fail
    refine (HS.out _ _ _ hB.out).mono ?_
    rintro e w1 ⟨rfl, hb1⟩
    have hblk := hk0.out.below hb1 (by simp)
    have hB1 := hB.out.below hb1
    have hx := hb0.out.trans (hb1.mono (by simp))
    have c0 := hblk.cell 0; have c1 := hblk.cell 1
    clear hb1
    go_wp2_with fail
    refine (H4.out _ _ _ hB1).mono ?_
    rintro e w2 ⟨rfl, hb2⟩
    have HX := Lib.hid (hx.trans (hb2.mono hx.size))
    go_wp2_with fail
    go_ret
    exact ⟨rfl, HX.out⟩
  · clear hD
    go_enter Tryz.func50, Tryz.ntmps50
    go_wp2_with fail
    refine (HS.out _ _ _ hB.out).mono ?_
    rintro e w1 ⟨rfl, hb1⟩
    have hblk := hk0.out.below hb1 (by simp)
    have hB1 := hB.out.below hb1
    have hx := hb0.out.trans (hb1.mono (by simp))
    have c0 := hblk.cell 0; have c1 := hblk.cell 1
    clear hb1
    go_wp2_with fail
    refine (H4.out _ _ _ hB1).mono ?_
    rintro e w2 ⟨rfl, hb2⟩
    have HX := Lib.hid (hx.trans (hb2.mono hx.size))
    go_wp2_with fail
    go_ret
    exact ⟨rfl, HX.out⟩

/-- A mark's run as the reference writes it, ere it asks Next. -/
def refS (k : Nat) (n : Int) (l : List UInt8) : List UInt8 :=
  if 1 ≤ k ∧ k ≤ 6 then (brList.drop (k - 1)).take 1 else if k = 7 then l else if k = 8 then Lib.itoa n else if k = 9 then 35 :: l else []
def refShow (k : Nat) (n : Int) (l : List UInt8) : List UInt8 × Nat :=
  if refS k n l = [] then ([], 3)
  else if (lexNext (refS k n l) 0).2.2 ≠ 0 ∨ (lexNext (refS k n l) 0).1.2.1 ≠ 0 ∨ (lexNext (refS k n l) 0).1.2.2.1 ≠ (refS k n l).length ∨ (lexNext (refS k n l) 0).1.1 ≠ k ∨ (lexNext (refS k n l) 0).1.2.2.2.1 ≠ n ∨ (lexNext (refS k n l) 0).1.2.2.2.2 ≠ l then ([], 3)
  else (refS k n l, 0)
theorem lexShow_err (k : Nat) (n : Int) (l : List UInt8) (h : (lexShow k n l).2 ≠ 0) : lexShow k n l = ([], 3) := by
  unfold lexShow at h ⊢
  split at h
  · rename_i h1; rw [if_pos h1]
  · exact absurd rfl h
theorem show_refS (k : Nat) (n : Int) (l : List UInt8) (h : (lexShow k n l).2 = 0) : refS k n l = (lexShow k n l).1 ∧ (lexShow k n l).1 ≠ [] := by
  unfold lexShow at h ⊢
  split at h
  · exact absurd h (by decide)
  · rename_i h1
    rw [if_neg h1]
    have b1 : ¬ showRun k n l = [] := fun e => h1 (.inl e)
    refine ⟨?_, b1⟩
    show refS k n l = showRun k n l
    unfold showRun at b1 ⊢
    unfold refS
    by_cases k1 : 1 ≤ k ∧ k ≤ 6
    · rw [if_pos k1, if_pos k1]
    rw [if_neg k1, if_neg k1]
    rw [if_neg k1] at b1
    by_cases k7 : k = 7
    · rw [if_pos k7, if_pos k7]
      rw [if_pos k7] at b1
      split at b1
      · rename_i h2; rw [if_pos h2]
      · exact absurd rfl b1
    rw [if_neg k7, if_neg k7]
    rw [if_neg k7] at b1
    by_cases k8 : k = 8
    · rw [if_pos k8, if_pos k8]
    rw [if_neg k8, if_neg k8]
    rw [if_neg k8] at b1
    by_cases k9 : k = 9
    · rw [if_pos k9, if_pos k9]
      rw [if_pos k9] at b1
      split at b1
      · rename_i h2; rw [if_pos h2]
      · exact absurd rfl b1
    rw [if_neg k9, if_neg k9]
theorem next_whole (x : List UInt8) (hx : x ≠ []) (h0 : (lexNext x 0).2.2 = 0) (h1 : (lexNext x 0).1.2.1 = 0) (h2 : (lexNext x 0).1.2.2.1 = x.length) : Cut x [] ∧ lexRun x = (((lexNext x 0).1.1, (lexNext x 0).1.2.2.2.1, (lexNext x 0).1.2.2.2.2), 0) := by
  have hp : 0 < x.length := by
    rcases Nat.eq_zero_or_pos x.length with h | h
    · exact absurd (List.length_eq_zero_iff.1 h) hx
    · exact h
  have e := lexNext_in x 0 (Nat.zero_le _)
  rw [show ((0 : Nat) : Int) = 0 from rfl, List.drop_zero] at e
  rw [e] at h0 h1 h2 ⊢
  rcases Nat.lt_or_eq_of_le (skipN_le x) with hs | hs
  · obtain ⟨bl, y, t, rfl, hb, hc⟩ := split_text x hs
    rw [rest_blanks bl 0 _ hb, rest_run _ hc] at h0 h1 h2 ⊢
    unfold ofGot at h0 h1 h2 ⊢
    split at h0
    · rename_i h3
      rw [if_pos h3] at h1 h2 ⊢
      have e1 : 0 + bl.length = 0 := h1
      have hbl : bl = [] := List.length_eq_zero_iff.1 (by omega)
      subst hbl
      have e2 : 0 + [].length + y.length = ([] ++ (y ++ t)).length := h2
      rw [List.nil_append, List.length_append, List.length_nil] at e2
      have ht : t = [] := List.length_eq_zero_iff.1 (by omega)
      subst ht
      rw [List.nil_append, List.append_nil]
      exact ⟨hc, by rw [← h3]⟩
    · rename_i h3
      exact absurd h0 h3
  · rw [fromRest_end 0 x hs] at h1
    have e1 : 0 + x.length = 0 := h1
    omega
theorem refShow_eq (k : Nat) (n : Int) (l : List UInt8) (h0 : -9223372036854775808 ≤ n) (h1 : n ≤ 9223372036854775807) : refShow k n l = lexShow k n l := by
  by_cases h : (lexShow k n l).2 = 0
  · obtain ⟨hg, hr⟩ := show_run k n l h0 h1 h
    obtain ⟨hs, hne⟩ := show_refS k n l h
    have e := lexNext_in (lexShow k n l).1 0 (Nat.zero_le _)
    rw [show ((0 : Nat) : Int) = 0 from rfl, List.drop_zero] at e
    have hc := hg.cut Stops.nil
    have e2 := rest_run 0 hc
    rw [List.append_nil, hr] at e2
    rw [e2] at e
    have e3 : lexNext (lexShow k n l).1 0 = ((k, 0, (lexShow k n l).1.length, n, l), 0, 0) := by
      rw [e]; unfold ofGot; rw [if_pos rfl, Nat.zero_add]
    unfold refShow
    rw [hs, if_neg hne, e3, if_neg (by simp)]
    rw [← h]
  · rw [lexShow_err k n l h]
    unfold refShow
    by_cases hne : refS k n l = []
    · rw [if_pos hne]
    rw [if_neg hne]
    split
    · rfl
    · rename_i hall
      simp only [not_or, Decidable.not_not] at hall
      obtain ⟨a1, a2, a3, a4, a5, a6⟩ := hall
      obtain ⟨hc, hr⟩ := next_whole _ hne a1 a2 a3
      rw [a4, a5, a6] at hr
      have h3 := (run_show hc (by rw [hr])).1
      rw [hr] at h3
      exact absurd (by rw [h3]) h
end
end Go.Proofs.YtbhekkkijomglaaGreatDoor
