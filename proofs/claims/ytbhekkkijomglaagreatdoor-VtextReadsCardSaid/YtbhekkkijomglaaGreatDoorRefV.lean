/- The walk of the reference's run: what is no bracket and no word. -/
import Derived.Test.YtbhekkkijomglaaGreatDoorRefBZ
namespace Go.Proofs.YtbhekkkijomglaaGreatDoor
open Go.RowKit

set_option maxRecDepth 100000 in
set_option maxHeartbeats 1000000 in
theorem run_letbad (s : ByteArray) (w : World) (hs : s.size ≤ 20000) (h : NoBr s) (hb : letB (s.data.toList.headD 0) = true) (hl : s.data.toList.all letB = false) :
    Calls Tryz.prog 54 #[.string s] w (RunR w (bad 3)) := by
  obtain ⟨h0, hf0⟩ := run_front h
  have HBR : Hid (((s.size : Int) == 1) = true → ∀ W, Calls Tryz.prog 53 #[.int .u8 (s[0].toNat : Nat)] W fun e w' => e = .returned (.int .u8 0) ∧ W = w') := by
    intro hh
    rcases hf0 with k | ⟨_, k⟩
    · rw [k] at hh; cases hh
    · exact k
  have hlead : ((s.size : Int) == 1) = false ∨ ((s.size : Int) == 1) = true := by cases ((s.size : Int) == 1) <;> simp
  clear hf0 h
  have hd0 : letB s[0] = true := by
    have := data_get s 0 h0
    cases hh : s.data.toList with
    | nil => rw [hh] at this; cases this
    | cons c r => rw [hh] at this hb; rw [← Option.some.inj this]; exact hb
  have HL0 : Hid (∀ W, Calls Tryz.prog 76 #[.int .u8 (s[0].toNat : Nat)] W fun e w' => e = .returned (.bool true) ∧ W = w') := fun W => rletter_any s[0] W true hd0
  have HALL := Lib.hid hl
  have HLT : Hid (∀ k, (hk : k < s.size) → ∀ W, Calls Tryz.prog 76 #[.int .u8 (s[k].toNat : Nat)] W fun e w' => e = .returned (.bool (letB s[k])) ∧ W = w') := fun k hk W => rletter_any s[k] W _ rfl
  clear hb hl hd0
  unfold RunR
  rcases hlead with hf | hf
  all_goals
    go_enter Tryz.func54, Tryz.ntmps54
    go_wp2_with (first | (go_at_call 53; refine (HBR.out hf _).mono ?_; rintro e w' ⟨rfl, rfl⟩) | (go_at_call 76; refine (HL0.out _).mono ?_; rintro e w' ⟨rfl, rfl⟩))
    go_loop [4] (fun i => ∃ k : Nat, k ≤ s.size ∧ i = .int .i64 k ∧ Hid ((s.data.toList.take k).all letB = true)) (fun i => s.size - (intOf i).toNat)
    case atStart => exact ⟨0, Nat.zero_le _, rfl, rfl⟩
    case round =>
      obtain ⟨k, hk, rfl, HA⟩ := hrel
      by_cases hlt : k < s.size
      · have hc := HLT.out k hlt
        cases hb : letB s[k] with
        | true =>
          rw [hb] at hc
          have HC := Lib.hid hc; clear hc
          go_wp2_with (go_at_call 76; refine (HC.out _).mono ?_; rintro e w' ⟨rfl, rfl⟩)
          go_round
          case rel => exact ⟨k + 1, by omega, by go_num, all_take_succ letB s k hlt HA.out hb⟩
          case measure => simp [intOf] <;> omega
        | false =>
          rw [hb] at hc
          have HC := Lib.hid hc; clear hc
          go_wp2_with (go_at_call 76; refine (HC.out _).mono ?_; rintro e w' ⟨rfl, rfl⟩)
          refine bodyPost_ret (v := .tuple #[.agg #[.int .u8 0, .int .i64 0, .int .i64 0, .int .i64 0, .string ⟨#[]⟩], .int .i64 3]) (by simp [results, Tryz.results54, go_sem]) rfl ⟨rfl, (Below.refl _ _).alloc (Nat.le_refl _) _⟩
      · exfalso
        obtain rfl : k = s.size := by omega
        have := all_done letB s HA.out
        rw [HALL.out] at this
        cases this

set_option maxRecDepth 100000 in
set_option maxHeartbeats 1000000 in
theorem run_none (s : ByteArray) (w : World) (hs : s.size ≤ 20000) (h : NoBr s) (hb : letB (s.data.toList.headD 0) = false) (hc : (digB (s.data.toList.headD 0) || s.data.toList.headD 0 == 45) = false) (hd : (s.data.toList.headD 0 == 35) = false) :
    Calls Tryz.prog 54 #[.string s] w (RunR w (bad 3)) := by
  obtain ⟨h0, hf0⟩ := run_front h
  have HBR : Hid (((s.size : Int) == 1) = true → ∀ W, Calls Tryz.prog 53 #[.int .u8 (s[0].toNat : Nat)] W fun e w' => e = .returned (.int .u8 0) ∧ W = w') := by
    intro hh
    rcases hf0 with k | ⟨_, k⟩
    · rw [k] at hh; cases hh
    · exact k
  have hlead : ((s.size : Int) == 1) = false ∨ ((s.size : Int) == 1) = true := by cases ((s.size : Int) == 1) <;> simp
  clear hf0 h
  have hd0 : s.data.toList.headD 0 = s[0] := by
    have := data_get s 0 h0
    cases hh : s.data.toList with
    | nil => rw [hh] at this; cases this
    | cons c r => rw [hh] at this; exact Option.some.inj this
  rw [hd0] at hb hc
  have HL0 : Hid (∀ W, Calls Tryz.prog 76 #[.int .u8 (s[0].toNat : Nat)] W fun e w' => e = .returned (.bool false) ∧ W = w') := fun W => rletter_any s[0] W false hb
  have HD0 : Hid (∀ W, Calls Tryz.prog 77 #[.int .u8 (s[0].toNat : Nat)] W fun e w' => e = .returned (.bool (digB s[0])) ∧ W = w') := fun W => rdigit_any s[0] W _ rfl
  
  simp only [Bool.or_eq_false_iff] at hc
  have hdg := hc.1
  rw [hdg] at HD0
  have h45 : ((s[0].toNat : Int) == 45) = false := beq_eq_false_iff_ne.2 fun e => (beq_eq_false_iff_ne.1 hc.2) (UInt8.toNat_inj.1 (show s[0].toNat = 45 by omega))
  
  rw [hd0] at hd
  have h35 : ((s[0].toNat : Int) == 35) = false := beq_eq_false_iff_ne.2 fun e => (beq_eq_false_iff_ne.1 hd) (UInt8.toNat_inj.1 (show s[0].toNat = 35 by omega))
  clear hb hc hd hdg hd0
  unfold RunR
  rcases hlead with hf | hf
  all_goals
    go_enter Tryz.func54, Tryz.ntmps54
    go_wp2_with (first | (go_at_call 53; refine (HBR.out hf _).mono ?_; rintro e w' ⟨rfl, rfl⟩) | (go_at_call 76; refine (HL0.out _).mono ?_; rintro e w' ⟨rfl, rfl⟩) | (go_at_call 77; refine (HD0.out _).mono ?_; rintro e w' ⟨rfl, rfl⟩))
    refine bodyPost_ret (v := .tuple #[.agg #[.int .u8 0, .int .i64 0, .int .i64 0, .int .i64 0, .string ⟨#[]⟩], .int .i64 3]) (by simp [results, Tryz.results54, go_sem]) rfl ⟨rfl, (Below.refl _ _).alloc (Nat.le_refl _) _⟩

set_option maxRecDepth 100000 in
set_option maxHeartbeats 1000000 in
theorem run_rowbad (s : ByteArray) (w : World) (hs : s.size ≤ 20000) (h : NoBr s) (hb : letB (s.data.toList.headD 0) = false) (hc : (digB (s.data.toList.headD 0) || s.data.toList.headD 0 == 45) = false) (hd : (s.data.toList.headD 0 == 35) = true) (hr : (s.data.toList.drop 1).all bitB = false) :
    Calls Tryz.prog 54 #[.string s] w (RunR w (bad 3)) := by
  obtain ⟨h0, hf0⟩ := run_front h
  have HBR : Hid (((s.size : Int) == 1) = true → ∀ W, Calls Tryz.prog 53 #[.int .u8 (s[0].toNat : Nat)] W fun e w' => e = .returned (.int .u8 0) ∧ W = w') := by
    intro hh
    rcases hf0 with k | ⟨_, k⟩
    · rw [k] at hh; cases hh
    · exact k
  have hlead : ((s.size : Int) == 1) = false ∨ ((s.size : Int) == 1) = true := by cases ((s.size : Int) == 1) <;> simp
  clear hf0 h
  have hd0 : s.data.toList.headD 0 = s[0] := by
    have := data_get s 0 h0
    cases hh : s.data.toList with
    | nil => rw [hh] at this; cases this
    | cons c r => rw [hh] at this; exact Option.some.inj this
  rw [hd0] at hb hc
  have HL0 : Hid (∀ W, Calls Tryz.prog 76 #[.int .u8 (s[0].toNat : Nat)] W fun e w' => e = .returned (.bool false) ∧ W = w') := fun W => rletter_any s[0] W false hb
  have HD0 : Hid (∀ W, Calls Tryz.prog 77 #[.int .u8 (s[0].toNat : Nat)] W fun e w' => e = .returned (.bool (digB s[0])) ∧ W = w') := fun W => rdigit_any s[0] W _ rfl
  
  simp only [Bool.or_eq_false_iff] at hc
  have hdg := hc.1
  rw [hdg] at HD0
  have h45 : ((s[0].toNat : Int) == 45) = false := beq_eq_false_iff_ne.2 fun e => (beq_eq_false_iff_ne.1 hc.2) (UInt8.toNat_inj.1 (show s[0].toNat = 45 by omega))
  
  rw [hd0] at hd
  have h35 : ((s[0].toNat : Int) == 35) = true := by rw [show s[0] = 35 by simpa using hd]; rfl
  have hx : (s.extract 1 s.size).data.toList = s.data.toList.drop 1 := by
    rw [bs_extract, bs_list, List.take_of_length_le (by rw [List.length_drop]; simp)]
  have s1 : (1 : Int) ≤ (s.size : Int) := by omega
  
  have hbit : ∀ k, (hk : k < s.size) → 1 ≤ k → (s.data.toList.drop 1)[k - 1]? = some s[k] := fun k hk h1 => by rw [List.getElem?_drop, show 1 + (k - 1) = k by omega, data_get s k hk]
  have HBIT := Lib.hid hbit; clear hbit
  
  have HR := Lib.hid hr
  have hlen : Hid ((s.data.toList.drop 1).length = s.size - 1) := by show _ = _; rw [List.length_drop]; simp
  clear hb hc hd hdg hd0 hr hx
  unfold RunR
  rcases hlead with hf | hf
  all_goals
    go_enter Tryz.func54, Tryz.ntmps54
    go_wp2_with (first | (go_at_call 53; refine (HBR.out hf _).mono ?_; rintro e w' ⟨rfl, rfl⟩) | (go_at_call 76; refine (HL0.out _).mono ?_; rintro e w' ⟨rfl, rfl⟩) | (go_at_call 77; refine (HD0.out _).mono ?_; rintro e w' ⟨rfl, rfl⟩))
    go_loop [9] (fun i => ∃ k : Nat, 1 ≤ k ∧ k ≤ s.size ∧ i = .int .i64 k ∧ Hid (∀ j, 1 ≤ j → j < k → ∀ b, (s.data.toList.drop 1)[j - 1]? = some b → bitB b = true)) (fun i => s.size - (intOf i).toNat)
    case atStart => exact ⟨1, Nat.le_refl _, h0, rfl, fun j h1 h2 => by omega⟩
    case round =>
      obtain ⟨k, hk1, hk, rfl, HA⟩ := hrel
      by_cases hlt : k < s.size
      · cases hb : bitB s[k] with
        | true =>
          rcases bit_cases hb with hc | ⟨hc, hc2⟩
          all_goals
            go_wp2_with fail
            go_round
            case rel => exact ⟨k + 1, by omega, by omega, by go_num, fun j h1 h2 b hj => by
              rcases (by omega : j < k ∨ j = k) with h3 | h3
              · exact HA.out j h1 h3 b hj
              · subst h3; rw [HBIT.out j hlt h1] at hj; rw [← Option.some.inj hj]; exact hb⟩
            case measure => simp [intOf] <;> omega
        | false =>
          obtain ⟨hc, hc2⟩ := bit_not hb
          go_wp2_with fail
          refine bodyPost_ret (v := .tuple #[.agg #[.int .u8 0, .int .i64 0, .int .i64 0, .int .i64 0, .string ⟨#[]⟩], .int .i64 3]) (by simp [results, Tryz.results54, go_sem]) rfl ⟨rfl, (Below.refl _ _).alloc (Nat.le_refl _) _⟩
      · exfalso
        have hall : (s.data.toList.drop 1).all bitB = true := by
          rw [List.all_eq_true]
          intro b hbm
          obtain ⟨i, hi, he⟩ := List.mem_iff_getElem.1 hbm
          rw [hlen.out] at hi
          exact HA.out (i + 1) (by omega) (by omega) b (by rw [show i + 1 - 1 = i by omega, List.getElem?_eq_getElem (by rw [hlen.out]; exact hi), he])
        rw [HR.out] at hall
        cases hall

set_option maxRecDepth 100000 in
set_option maxHeartbeats 1000000 in
theorem run_rowlong (s : ByteArray) (w : World) (hs : s.size ≤ 20000) (h : NoBr s) (hb : letB (s.data.toList.headD 0) = false) (hc : (digB (s.data.toList.headD 0) || s.data.toList.headD 0 == 45) = false) (hd : (s.data.toList.headD 0 == 35) = true) (hr : (s.data.toList.drop 1).all bitB = true) (hi : isB (s.data.toList.drop 1) = false) :
    Calls Tryz.prog 54 #[.string s] w (RunR w (bad 5)) := by
  obtain ⟨h0, hf0⟩ := run_front h
  have HBR : Hid (((s.size : Int) == 1) = true → ∀ W, Calls Tryz.prog 53 #[.int .u8 (s[0].toNat : Nat)] W fun e w' => e = .returned (.int .u8 0) ∧ W = w') := by
    intro hh
    rcases hf0 with k | ⟨_, k⟩
    · rw [k] at hh; cases hh
    · exact k
  have hlead : ((s.size : Int) == 1) = false ∨ ((s.size : Int) == 1) = true := by cases ((s.size : Int) == 1) <;> simp
  clear hf0 h
  have hd0 : s.data.toList.headD 0 = s[0] := by
    have := data_get s 0 h0
    cases hh : s.data.toList with
    | nil => rw [hh] at this; cases this
    | cons c r => rw [hh] at this; exact Option.some.inj this
  rw [hd0] at hb hc
  have HL0 : Hid (∀ W, Calls Tryz.prog 76 #[.int .u8 (s[0].toNat : Nat)] W fun e w' => e = .returned (.bool false) ∧ W = w') := fun W => rletter_any s[0] W false hb
  have HD0 : Hid (∀ W, Calls Tryz.prog 77 #[.int .u8 (s[0].toNat : Nat)] W fun e w' => e = .returned (.bool (digB s[0])) ∧ W = w') := fun W => rdigit_any s[0] W _ rfl
  
  simp only [Bool.or_eq_false_iff] at hc
  have hdg := hc.1
  rw [hdg] at HD0
  have h45 : ((s[0].toNat : Int) == 45) = false := beq_eq_false_iff_ne.2 fun e => (beq_eq_false_iff_ne.1 hc.2) (UInt8.toNat_inj.1 (show s[0].toNat = 45 by omega))
  
  rw [hd0] at hd
  have h35 : ((s[0].toNat : Int) == 35) = true := by rw [show s[0] = 35 by simpa using hd]; rfl
  have hx : (s.extract 1 s.size).data.toList = s.data.toList.drop 1 := by
    rw [bs_extract, bs_list, List.take_of_length_le (by rw [List.length_drop]; simp)]
  have s1 : (1 : Int) ≤ (s.size : Int) := by omega
  
  have hbit : ∀ k, (hk : k < s.size) → 1 ≤ k → (s.data.toList.drop 1)[k - 1]? = some s[k] := fun k hk h1 => by rw [List.getElem?_drop, show 1 + (k - 1) = k by omega, data_get s k hk]
  have HBIT := Lib.hid hbit; clear hbit
  
  have hIS := fun W => ris_any (s.extract 1 s.size) W (by unfold maxLen; rw [ByteArray.size_extract]; omega) false (by rw [hx]; exact hi)
  have HIS := Lib.hid hIS; clear hIS
  have HX : Hid (bs (s.data.toList.drop 1) = s.extract 1 s.size) := by show _ = _; rw [← hx, bs_of]
  have HR : Hid (∀ k, (hk : k < s.size) → 1 ≤ k → bitB s[k] = true) := fun k hk h1 => List.all_eq_true.1 hr _ (List.mem_of_getElem? (HBIT.out k hk h1))
  clear hb hc hd hdg hd0 hr hx hi
  unfold RunR
  rcases hlead with hf | hf
  all_goals
    go_enter Tryz.func54, Tryz.ntmps54
    go_wp2_with (first | (go_at_call 53; refine (HBR.out hf _).mono ?_; rintro e w' ⟨rfl, rfl⟩) | (go_at_call 76; refine (HL0.out _).mono ?_; rintro e w' ⟨rfl, rfl⟩) | (go_at_call 77; refine (HD0.out _).mono ?_; rintro e w' ⟨rfl, rfl⟩))
    go_loop [9] (fun i => ∃ k : Nat, 1 ≤ k ∧ k ≤ s.size ∧ i = .int .i64 k) (fun i => s.size - (intOf i).toNat)
    case atStart => exact ⟨1, Nat.le_refl _, h0, rfl⟩
    case round =>
      obtain ⟨k, hk1, hk, rfl⟩ := hrel
      by_cases hlt : k < s.size
      · rcases bit_cases (HR.out k hlt hk1) with hc | ⟨hc, hc2⟩
        all_goals
          go_wp2_with fail
          go_round
          case rel => exact ⟨k + 1, by omega, by omega, by go_num⟩
          case measure => simp [intOf] <;> omega
      · obtain rfl : k = s.size := by omega
        go_wp2_with (go_at_call 80; refine (HIS.out _).mono ?_; rintro e w' ⟨rfl, rfl⟩)
        refine bodyPost_ret (v := .tuple #[.agg #[.int .u8 0, .int .i64 0, .int .i64 0, .int .i64 0, .string ⟨#[]⟩], .int .i64 5]) (by simp [results, Tryz.results54, go_sem]) rfl ⟨rfl, (Below.refl _ _).alloc (Nat.le_refl _) _⟩

set_option maxRecDepth 100000 in
set_option maxHeartbeats 1000000 in
theorem run_row (s : ByteArray) (w : World) (hs : s.size ≤ 20000) (h : NoBr s) (hb : letB (s.data.toList.headD 0) = false) (hc : (digB (s.data.toList.headD 0) || s.data.toList.headD 0 == 45) = false) (hd : (s.data.toList.headD 0 == 35) = true) (hr : (s.data.toList.drop 1).all bitB = true) (hi : isB (s.data.toList.drop 1) = true) :
    Calls Tryz.prog 54 #[.string s] w (RunR w (((9, 0, s.data.toList.drop 1), 0))) := by
  obtain ⟨h0, hf0⟩ := run_front h
  have HBR : Hid (((s.size : Int) == 1) = true → ∀ W, Calls Tryz.prog 53 #[.int .u8 (s[0].toNat : Nat)] W fun e w' => e = .returned (.int .u8 0) ∧ W = w') := by
    intro hh
    rcases hf0 with k | ⟨_, k⟩
    · rw [k] at hh; cases hh
    · exact k
  have hlead : ((s.size : Int) == 1) = false ∨ ((s.size : Int) == 1) = true := by cases ((s.size : Int) == 1) <;> simp
  clear hf0 h
  have hd0 : s.data.toList.headD 0 = s[0] := by
    have := data_get s 0 h0
    cases hh : s.data.toList with
    | nil => rw [hh] at this; cases this
    | cons c r => rw [hh] at this; exact Option.some.inj this
  rw [hd0] at hb hc
  have HL0 : Hid (∀ W, Calls Tryz.prog 76 #[.int .u8 (s[0].toNat : Nat)] W fun e w' => e = .returned (.bool false) ∧ W = w') := fun W => rletter_any s[0] W false hb
  have HD0 : Hid (∀ W, Calls Tryz.prog 77 #[.int .u8 (s[0].toNat : Nat)] W fun e w' => e = .returned (.bool (digB s[0])) ∧ W = w') := fun W => rdigit_any s[0] W _ rfl
  
  simp only [Bool.or_eq_false_iff] at hc
  have hdg := hc.1
  rw [hdg] at HD0
  have h45 : ((s[0].toNat : Int) == 45) = false := beq_eq_false_iff_ne.2 fun e => (beq_eq_false_iff_ne.1 hc.2) (UInt8.toNat_inj.1 (show s[0].toNat = 45 by omega))
  
  rw [hd0] at hd
  have h35 : ((s[0].toNat : Int) == 35) = true := by rw [show s[0] = 35 by simpa using hd]; rfl
  have hx : (s.extract 1 s.size).data.toList = s.data.toList.drop 1 := by
    rw [bs_extract, bs_list, List.take_of_length_le (by rw [List.length_drop]; simp)]
  have s1 : (1 : Int) ≤ (s.size : Int) := by omega
  
  have hbit : ∀ k, (hk : k < s.size) → 1 ≤ k → (s.data.toList.drop 1)[k - 1]? = some s[k] := fun k hk h1 => by rw [List.getElem?_drop, show 1 + (k - 1) = k by omega, data_get s k hk]
  have HBIT := Lib.hid hbit; clear hbit
  
  have hIS := fun W => ris_any (s.extract 1 s.size) W (by unfold maxLen; rw [ByteArray.size_extract]; omega) true (by rw [hx]; exact hi)
  have HIS := Lib.hid hIS; clear hIS
  have HX : Hid (bs (s.data.toList.drop 1) = s.extract 1 s.size) := by show _ = _; rw [← hx, bs_of]
  have HR : Hid (∀ k, (hk : k < s.size) → 1 ≤ k → bitB s[k] = true) := fun k hk h1 => List.all_eq_true.1 hr _ (List.mem_of_getElem? (HBIT.out k hk h1))
  clear hb hc hd hdg hd0 hr hx hi
  unfold RunR
  rcases hlead with hf | hf
  all_goals
    go_enter Tryz.func54, Tryz.ntmps54
    go_wp2_with (first | (go_at_call 53; refine (HBR.out hf _).mono ?_; rintro e w' ⟨rfl, rfl⟩) | (go_at_call 76; refine (HL0.out _).mono ?_; rintro e w' ⟨rfl, rfl⟩) | (go_at_call 77; refine (HD0.out _).mono ?_; rintro e w' ⟨rfl, rfl⟩))
    go_loop [9] (fun i => ∃ k : Nat, 1 ≤ k ∧ k ≤ s.size ∧ i = .int .i64 k) (fun i => s.size - (intOf i).toNat)
    case atStart => exact ⟨1, Nat.le_refl _, h0, rfl⟩
    case round =>
      obtain ⟨k, hk1, hk, rfl⟩ := hrel
      by_cases hlt : k < s.size
      · rcases bit_cases (HR.out k hlt hk1) with hc | ⟨hc, hc2⟩
        all_goals
          go_wp2_with fail
          go_round
          case rel => exact ⟨k + 1, by omega, by omega, by go_num⟩
          case measure => simp [intOf] <;> omega
      · obtain rfl : k = s.size := by omega
        go_wp2_with (go_at_call 80; refine (HIS.out _).mono ?_; rintro e w' ⟨rfl, rfl⟩)
        refine bodyPost_ret (v := .tuple #[.agg #[.int .u8 9, .int .i64 0, .int .i64 0, .int .i64 0, .string (s.extract 1 s.size)], .int .i64 0]) (by simp [results, Tryz.results54, go_sem]) rfl ⟨by rw [HX.out]; rfl, (Below.refl _ _).alloc (Nat.le_refl _) _⟩
end Go.Proofs.YtbhekkkijomglaaGreatDoor
