/- The walks of lex's functions on one run: letters, form, number, row, mark. -/
import Derived.Test.YtcagfnllfenokaaDoorEnv
import Derived.Test.YtcagfnllfenokaaDoorLexSpec
import Derived.Test.YtcagfnllfenokaaDoorBits
import Derived.Test.YtcagfnllfenokaaDoorBase
import Derived.WalkSpells
import Derived.WalkLawsBesides
import Derived.Deep.QuietTactic
import Derived.BigQuiet
namespace Go.Proofs.YtcagfnllfenokaaDoor
open Go.RowKit

theorem data_take_succ (s : ByteArray) (k : Nat) (h : k < s.size) : s.data.toList.take (k + 1) = s.data.toList.take k ++ [s[k]] := by
  rw [List.take_succ_eq_append_getElem (by simpa using h)]; rfl
theorem all_take_succ (f : UInt8 → Bool) (s : ByteArray) (k : Nat) (h : k < s.size) (h1 : (s.data.toList.take k).all f = true) (h2 : f s[k] = true) : (s.data.toList.take (k + 1)).all f = true := by
  rw [data_take_succ s k h, List.all_append, h1]; simp [h2]
theorem all_bad (f : UInt8 → Bool) (s : ByteArray) (k : Nat) (h : k < s.size) (h2 : f s[k] = false) : s.data.toList.all f = false := by
  rw [List.all_eq_false]
  exact ⟨s[k], by simp [ByteArray.getElem_eq_getElem_data], by simp [h2]⟩
theorem all_done (f : UInt8 → Bool) (s : ByteArray) (h : (s.data.toList.take s.size).all f = true) : s.data.toList.all f = true := by
  rwa [List.take_of_length_le (by simp)] at h

theorem letB_yes (b : UInt8) (h : 97 ≤ (b.toNat : Int) ∧ (b.toNat : Int) ≤ 122) : letB b = true := by
  unfold letB; simp only [Bool.and_eq_true, decide_eq_true_eq]; omega
theorem letB_no (b : UInt8) (h : (b.toNat : Int) < 97 ∨ 122 < (b.toNat : Int)) : letB b = false := by
  unfold letB; rw [Bool.and_eq_false_iff]; simp only [decide_eq_false_iff_not]; omega

theorem letters_any (s : ByteArray) (w : World) (hs : s.size ≤ maxLen) :
    Calls Tryd.prog 15 #[.string s] w fun e w' => e = .returned (.bool (lettersB s.data.toList)) ∧ w' = w := by
  unfold maxLen at hs
  go_enter Tryd.func15, Tryd.ntmps15
  go_wp2
  go_loop [6] (fun i => ∃ k : Nat, k ≤ s.size ∧ i = .int .i64 k ∧ (s.data.toList.take k).all letB = true) (fun i => s.size - (intOf i).toNat)
  case atStart => exact ⟨0, Nat.zero_le _, rfl, rfl⟩
  case round =>
    obtain ⟨k, hk, rfl, hall⟩ := hrel
    have HA := Lib.hid hall; clear hall
    go_wp2
    · have hlt : k < s.size := by assumption
      have hb : (s[k].toNat : Int) < 97 ∨ 122 < (s[k].toNat : Int) := by assumption
      go_ret
      exact ⟨ret_bool (by rw [lettersB, all_bad letB s k hlt (letB_no _ hb)]; rfl), rfl⟩
    · have hlt : k < s.size := by assumption
      have hb : 97 ≤ (s[k].toNat : Int) ∧ (s[k].toNat : Int) ≤ 122 := by assumption
      go_round
      case rel => exact ⟨k + 1, by omega, by go_num, all_take_succ letB s k hlt HA.out (letB_yes _ hb)⟩
      case measure => simp [intOf]; omega
    · have hlt : k < s.size := by assumption
      have hb : (s[k].toNat : Int) < 97 := by assumption
      go_ret
      exact ⟨ret_bool (by rw [lettersB, all_bad letB s k hlt (letB_no _ (.inl hb))]; rfl), rfl⟩
    · have hge : ¬ k < s.size := by assumption
      obtain rfl : k = s.size := by omega
      go_ret
      exact ⟨ret_bool (by rw [lettersB, all_done letB s HA.out, ← isEmpty_bytes]; rfl), rfl⟩

theorem digB_yes (b : UInt8) (h : 48 ≤ (b.toNat : Int) ∧ (b.toNat : Int) ≤ 57) : digB b = true := by
  unfold digB; simp only [Bool.and_eq_true, decide_eq_true_eq]; omega
theorem digB_no (b : UInt8) (h : (b.toNat : Int) < 48 ∨ 57 < (b.toNat : Int)) : digB b = false := by
  unfold digB; rw [Bool.and_eq_false_iff]; simp only [decide_eq_false_iff_not]; omega
theorem numForm_no (s d : ByteArray) (hd : d = bs (digitsOf s.data.toList)) (h : d.data.toList.all digB = false) : numForm s.data.toList = false := by
  have e : d.data.toList = digitsOf s.data.toList := by rw [hd, bs_list]
  rw [numForm, ← e, h, Bool.false_and]
theorem numForm_done (s d : ByteArray) (hd : d = bs (digitsOf s.data.toList)) (h : d.data.toList.all digB = true) :
    numForm s.data.toList = (s.toList == [48] || (!d.toList.isEmpty && d.data.toList.head? != some 48)) := by
  have e : d.data.toList = digitsOf s.data.toList := by rw [hd, bs_list]
  rw [numForm, ← e, h, Bool.true_and, Lib.toList_data, Lib.toList_data]
theorem head_ne (d : ByteArray) (h : 0 < d.size) : (d.data.toList.head? != some 48) = ((d[0].toNat : Int) != 48) := by
  have e : d.data.toList.head? = some d[0] := by
    rw [List.head?_eq_getElem?, List.getElem?_eq_getElem (by simpa using h)]
    rfl
  rw [e]
  by_cases hb : d[0] = 48
  · rw [hb]; rfl
  · have h1 : (some d[0] != some 48) = true := by simp [hb]
    have h2 : ((d[0].toNat : Int) != 48) = true := bne_iff_ne.2 (fun e => hb (UInt8.toNat_inj.1 (by simpa using (by omega : d[0].toNat = 48))))
    rw [h1, h2]

theorem form_any (s : ByteArray) (w : World) (hs : s.size ≤ maxLen) :
    Calls Tryd.prog 36 #[.string s] w fun e w' => e = .returned (.bool (numForm s.data.toList)) ∧ w' = w := by
  unfold maxLen at hs
  obtain ⟨d, hd⟩ : ∃ d : ByteArray, d = ⟨(Lib.trimPrefix s.data.toList [45]).toArray⟩ := ⟨_, rfl⟩
  have hds : d.size ≤ s.size := by
    rw [hd]
    show (bs _).size ≤ _
    rw [bs_size]
    have hl : s.data.toList.length = s.size := by simp
    unfold Lib.trimPrefix
    split
    · rw [List.length_drop]; omega
    · omega
  have HD := Lib.hid hd
  have hT := fun W => Tryd.strings_TrimPrefix s ⟨#[45]⟩ W
  rw [show (⟨#[45]⟩ : ByteArray).data.toList = [45] from rfl, ← hd] at hT
  clear hd
  have HT := Lib.hid hT; clear hT
  go_enter Tryd.func36, Tryd.ntmps36
  go_wp2_with (go_at_call 51; refine (HT.out _).mono ?_; rintro e w' ⟨rfl, rfl⟩)
  go_loop [9] (fun i => ∃ k : Nat, k ≤ d.size ∧ i = .int .i64 k ∧ (d.data.toList.take k).all digB = true) (fun i => d.size - (intOf i).toNat)
  case atStart => exact ⟨0, Nat.zero_le _, rfl, rfl⟩
  case round =>
    obtain ⟨k, hk, rfl, hall⟩ := hrel
    have HA := Lib.hid hall; clear hall
    go_wp2
    · have hlt : k < d.size := by assumption
      have hb : (d[k].toNat : Int) < 48 ∨ 57 < (d[k].toNat : Int) := by assumption
      go_ret
      exact ⟨ret_bool (numForm_no s d HD.out (all_bad digB d k hlt (digB_no _ hb))).symm, rfl⟩
    · have hlt : k < d.size := by assumption
      have hb : 48 ≤ (d[k].toNat : Int) ∧ (d[k].toNat : Int) ≤ 57 := by assumption
      go_round
      case rel => exact ⟨k + 1, by omega, by go_num, all_take_succ digB d k hlt HA.out (digB_yes _ hb)⟩
      case measure => simp [intOf]; omega
    · have hlt : k < d.size := by assumption
      have hb : (d[k].toNat : Int) < 48 := by assumption
      go_ret
      exact ⟨ret_bool (numForm_no s d HD.out (all_bad digB d k hlt (digB_no _ (.inl hb)))).symm, rfl⟩
    all_goals
      have hge : ¬ k < d.size := by assumption
      obtain rfl : k = d.size := by omega
      have hall := all_done digB d HA.out
    · have h1 : s.toList = [48] := by assumption
      go_ret
      exact ⟨ret_bool (by rw [numForm_done s d HD.out hall, h1]; rfl), rfl⟩
    · have h1 : d.toList = [] := by assumption
      go_ret
      exact ⟨ret_bool (by rw [numForm_done s d HD.out hall, h1, List.isEmpty_nil, Bool.not_true, Bool.false_and, Bool.or_false]), rfl⟩
    · have h1 : 0 < d.size := by assumption
      go_ret
      exact ⟨ret_bool (by rw [numForm_done s d HD.out hall, head_ne d h1]), rfl⟩
    · have h1 : ¬ d.toList = [] := by assumption
      have h2 : ¬ 0 < d.size := by assumption
      have h3 : d.data.toList.length = d.size := by simp
      exact absurd (by rw [Lib.toList_data]; exact List.length_eq_zero_iff.1 (by omega)) h1

/-- What a function that tells a mark and an error returns. -/
def gotVal (g : Got) : Value := .tuple #[.agg #[.int .u8 g.1.1, .int .i64 0, .int .i64 0, .int .i64 g.1.2.1, .string (bs g.1.2.2)], .int .i64 g.2]

theorem number_any (s : ByteArray) (w : World) (hs : s.size ≤ 140737488351232) (hv : Env w) :
    Calls Tryd.prog 24 #[.string s] w fun e w' => e = .returned (gotVal (lexNum s.data.toList)) ∧ Below w.heap.size w w' := by
  have hs' : s.size ≤ maxLen := by unfold maxLen; omega
  have b0 := (Below.refl w.heap.size w).alloc (Nat.le_refl _) (.cells #[.int .u8 0, .int .i64 0, .int .i64 0, .int .i64 0, .string ⟨#[]⟩] 30)
  by_cases hf : numForm s.data.toList = true
  · rcases parse_form s.data.toList hf with ⟨v, hp⟩ | hp
    · have hfin : gotVal (lexNum s.data.toList) = .tuple #[.agg #[.int .u8 8, .int .i64 0, .int .i64 0, .int .i64 v, .string ⟨#[]⟩], .int .i64 0] := by
        rw [lexNum, if_pos hf, hp]; rfl
      have hP := fun W => Tryd.strconv_ParseInt_10_at64_ok s (by omega) v hp W
      have HP := Lib.hid hP; clear hP hp
      have HF := Lib.hid hf; clear hf
      have HE := Lib.hid hfin; clear hfin
      have HB0 := Lib.hid b0; clear b0
      have HV := Lib.hid hv; clear hv
      go_enter Tryd.func24, Tryd.ntmps24
      go_wp2_with fail
      refine (form_any s _ hs').mono ?_
      rintro e w' ⟨rfl, hw⟩
      subst hw
      rw [HF.out]
      go_wp2_with fail
      refine (HP.out _).mono ?_
      rintro e w2 ⟨rfl, hw2⟩
      have b2 : Below (w.heap.size + 1) (w.alloc (.cells #[.int .u8 0, .int .i64 0, .int .i64 0, .int .i64 0, .string ⟨#[]⟩] 30)) w2 := by
        rcases hw2 with hw2 | ⟨t, hw2⟩
        · rw [hw2]; exact Below.refl _ _
        · rw [hw2]; exact (Lib.bytesWorld_below _ _ _).mono (by simp)
      have hB := (Blk.new w 30 #[.int .u8 0, .int .i64 0, .int .i64 0, .int .i64 0, .string ⟨#[]⟩]).below b2 (Nat.lt_succ_self _)
      have o := HB0.out.trans (b2.mono (Nat.le_succ _))
      clear hw2 b2
      have HO := Lib.hid o; clear o
      obtain ⟨⟨c0, c1, c2, c3, c4⟩, f0, f1, f2, f3, f4⟩ := hB.five
      obtain ⟨⟨q0, q1, q2, q3, q4⟩, _⟩ := (hB.set5 (.int .u8 8) (.int .i64 0) (.int .i64 0) (.int .i64 v) (.string ⟨#[]⟩)).five
      have HQ := Lib.hid (And.intro q0 (And.intro q1 (And.intro q2 (And.intro q3 q4))))
      clear q0 q1 q2 q3 q4
      generalize hg : w.heap.size = g at *
      have HG := Lib.hid hg; clear hg
      go_wp2_with fail
      obtain ⟨q0, q1, q2, q3, q4⟩ := HQ.out
      refine bodyPost_ret (v := .tuple #[.agg #[.int .u8 8, .int .i64 0, .int .i64 0, .int .i64 v, .string ⟨#[]⟩], .int .i64 0]) (by simp [results, Tryd.results24, go_sem, q0, q1, q2, q3, q4]) rfl ⟨by rw [HE.out], ?_⟩
      rw [HG.out]
      exact below_set5 HO.out (Nat.le_refl _) _ _ _ _ _
    · have hfin : gotVal (lexNum s.data.toList) = .tuple #[.agg #[.int .u8 0, .int .i64 0, .int .i64 0, .int .i64 0, .string ⟨#[]⟩], .int .i64 5] := by
        rw [lexNum, if_pos hf, hp]; rfl
      obtain ⟨tp, q, hvar⟩ := (hv.alloc (.cells #[.int .u8 0, .int .i64 0, .int .i64 0, .int .i64 0, .string ⟨#[]⟩] 30)).range
      have hP := Tryd.strconv_ParseInt_10_at64_range_var s (by omega) hp tp q _ hvar
      generalize Lib.intSat 64 s.data.toList = v at hP
      have HP := Lib.hid hP; clear hP hp hvar
      have HF := Lib.hid hf; clear hf
      have HE := Lib.hid hfin; clear hfin
      have HB0 := Lib.hid b0; clear b0
      have HV := Lib.hid hv; clear hv
      go_enter Tryd.func24, Tryd.ntmps24
      go_wp2_with fail
      refine (form_any s _ hs').mono ?_
      rintro e w' ⟨rfl, hw⟩
      subst hw
      rw [HF.out]
      go_wp2_with fail
      refine HP.out.mono ?_
      rintro e w2 ⟨N, rfl, _, _, b2⟩
      have hB := (Blk.new w 30 #[.int .u8 0, .int .i64 0, .int .i64 0, .int .i64 0, .string ⟨#[]⟩]).below b2 (by simp)
      have o := HB0.out.trans (b2.mono (by simp))
      clear b2 HP
      have HO := Lib.hid o; clear o
      obtain ⟨⟨c0, c1, c2, c3, c4⟩, f0, f1, f2, f3, f4⟩ := hB.five
      obtain ⟨⟨q0, q1, q2, q3, q4⟩, _⟩ := (hB.set5 (.int .u8 0) (.int .i64 0) (.int .i64 0) (.int .i64 0) (.string ⟨#[]⟩)).five
      have HQ := Lib.hid (And.intro q0 (And.intro q1 (And.intro q2 (And.intro q3 q4))))
      clear q0 q1 q2 q3 q4
      generalize hg : w.heap.size = g at *
      have HG := Lib.hid hg; clear hg
      go_wp2_with fail
      obtain ⟨q0, q1, q2, q3, q4⟩ := HQ.out
      refine bodyPost_ret (v := .tuple #[.agg #[.int .u8 0, .int .i64 0, .int .i64 0, .int .i64 0, .string ⟨#[]⟩], .int .i64 5]) (by simp [results, Tryd.results24, go_sem, q0, q1, q2, q3, q4]) rfl ⟨by rw [HE.out], ?_⟩
      rw [HG.out]
      exact below_set5 HO.out (Nat.le_refl _) _ _ _ _ _
  · have hf' : numForm s.data.toList = false := by simpa using hf
    have hfin : gotVal (lexNum s.data.toList) = .tuple #[.agg #[.int .u8 0, .int .i64 0, .int .i64 0, .int .i64 0, .string ⟨#[]⟩], .int .i64 3] := by
      rw [lexNum, if_neg hf]; rfl
    have HF := Lib.hid hf'; clear hf hf'
    have HE := Lib.hid hfin; clear hfin
    go_enter Tryd.func24, Tryd.ntmps24
    go_wp2_with (go_at_call 36; refine (form_any s _ hs').mono ?_; rintro e w' ⟨rfl, rfl⟩; rw [HF.out])
    refine bodyPost_ret (v := .tuple #[.agg #[.int .u8 0, .int .i64 0, .int .i64 0, .int .i64 0, .string ⟨#[]⟩], .int .i64 3]) (by simp [results, Tryd.results24, go_sem]) rfl ⟨by rw [HE.out], b0⟩

theorem row_any (s : ByteArray) (w : World) (hs : s.size ≤ 140737488351232) :
    Calls Tryd.prog 26 #[.string s] w fun e w' => e = .returned (gotVal (lexRow s.data.toList)) ∧ Below w.heap.size w w' := by
  have hs' : s.size ≤ maxLen := by unfold maxLen; omega
  have hlen : s.data.toList.length = s.size := by simp
  have b0 : ∀ o, Below w.heap.size w (w.alloc o) := fun o => (Below.refl w.heap.size w).alloc (Nat.le_refl _) o
  have hbad : s.data.toList.all bitB = false → gotVal (lexRow s.data.toList) = .tuple #[.agg #[.int .u8 0, .int .i64 0, .int .i64 0, .int .i64 0, .string ⟨#[]⟩], .int .i64 3] := by
    intro h; rw [lexRow, if_neg (by simp [h])]; rfl
  have HB := Lib.hid hbad; clear hbad
  have HB0 := Lib.hid b0; clear b0
  have HL := Lib.hid hlen; clear hlen
  go_enter Tryd.func26, Tryd.ntmps26
  go_wp2
  go_loop [7] (fun i => ∃ k : Nat, k ≤ s.size ∧ i = .int .i64 k ∧ (s.data.toList.take k).all bitB = true) (fun i => s.size - (intOf i).toNat)
  case atStart => exact ⟨0, Nat.zero_le _, rfl, rfl⟩
  case round =>
    obtain ⟨k, hk, rfl, hall⟩ := hrel
    have HA := Lib.hid hall; clear hall
    by_cases hlt : k < s.size
    · go_wp2_with fail
      · have h48 : (s[k].toNat : Int) = 48 := by assumption
        go_round
        case rel => exact ⟨k + 1, by omega, by go_num, by rw [take_all_snoc s k hlt, HA.out, bitB_48 _ h48]; rfl⟩
        case measure => simp [intOf]; omega
      · have hno : ((s[k].toNat : Int) != 48) = true ∧ ((s[k].toNat : Int) != 49) = true := by assumption
        refine bodyPost_ret (v := .tuple #[.agg #[.int .u8 0, .int .i64 0, .int .i64 0, .int .i64 0, .string ⟨#[]⟩], .int .i64 3]) (by simp [results, Tryd.results26, go_sem]) rfl ⟨?_, HB0.out _⟩
        rw [HB.out (all_bad bitB s k hlt (bitB_no _ hno))]
      · have hor : ((s[k].toNat : Int) != 48) = false ∨ ((s[k].toNat : Int) != 49) = false := by assumption
        go_round
        case rel => exact ⟨k + 1, by omega, by go_num, by rw [take_all_snoc s k hlt, HA.out, bitB_or _ hor]; rfl⟩
        case measure => simp [intOf]; omega
    · obtain rfl : k = s.size := by omega
      have hall := all_done bitB s HA.out
      have hisB : isB s.data.toList = decide (s.size ≤ 1024) := by
        unfold isB oddB
        rw [hall, HL.out]; simp
      by_cases h1024 : s.size ≤ 1024
      · have hfin : gotVal (lexRow s.data.toList) = .tuple #[.agg #[.int .u8 9, .int .i64 0, .int .i64 0, .int .i64 0, .string s], .int .i64 0] := by
          rw [lexRow, if_pos hall, if_pos (by rw [HL.out]; exact h1024)]
          simp only [gotVal, bs_of]; rfl
        rw [decide_eq_true h1024] at hisB
        have HI := Lib.hid hisB; clear hisB hall
        have HE := Lib.hid hfin; clear hfin
        go_wp2_with (go_at_call 17; refine (is_any s _ hs').mono ?_; rintro e w' ⟨rfl, rfl⟩; rw [HI.out])
        refine bodyPost_ret (v := .tuple #[.agg #[.int .u8 9, .int .i64 0, .int .i64 0, .int .i64 0, .string s], .int .i64 0]) (by simp [results, Tryd.results26, go_sem]) rfl ⟨by rw [HE.out], HB0.out _⟩
      · have hfin : gotVal (lexRow s.data.toList) = .tuple #[.agg #[.int .u8 0, .int .i64 0, .int .i64 0, .int .i64 0, .string ⟨#[]⟩], .int .i64 5] := by
          rw [lexRow, if_pos hall, if_neg (by rw [HL.out]; exact h1024)]; rfl
        rw [decide_eq_false h1024] at hisB
        have HI := Lib.hid hisB; clear hisB hall
        have HE := Lib.hid hfin; clear hfin
        go_wp2_with (go_at_call 17; refine (is_any s _ hs').mono ?_; rintro e w' ⟨rfl, rfl⟩; rw [HI.out])
        refine bodyPost_ret (v := .tuple #[.agg #[.int .u8 0, .int .i64 0, .int .i64 0, .int .i64 0, .string ⟨#[]⟩], .int .i64 5]) (by simp [results, Tryd.results26, go_sem]) rfl ⟨by rw [HE.out], HB0.out _⟩

theorem head_of (s : ByteArray) (h : 0 < s.size) : s.data.toList.headD 0 = s[0] := by
  have e : s.data.toList.head? = some s[0] := by
    rw [List.head?_eq_getElem?, List.getElem?_eq_getElem (by simpa using h)]
    rfl
  rw [List.headD_eq_head?_getD, e]; rfl
theorem extract_one (s : ByteArray) (h : 0 < s.size) : s.extract 0 1 = ⟨#[s[0]]⟩ := by
  rw [bs_extract]
  have e : (s.data.toList.drop 0).take (1 - 0) = [s[0]] := by
    rw [List.drop_zero]
    have := data_take_succ s 0 h
    simpa using this
  rw [e]; rfl
theorem drop_extract (s : ByteArray) : s.extract 1 s.size = bs (s.data.toList.drop 1) := by
  rw [bs_extract, List.take_of_length_le (by simp)]

theorem hasPrefix_one (s : ByteArray) (h : 0 < s.size) : Lib.hasPrefix s.data.toList [35] = (s[0] == 35) := by
  have e : s.data.toList = s[0] :: s.data.toList.drop 1 := by
    have := data_take_succ s 0 h
    have h2 : s.data.toList = s.data.toList.take 1 ++ s.data.toList.drop 1 := (List.take_append_drop 1 _).symm
    rw [this] at h2
    simpa using h2
  rw [e, Lib.hasPrefix]
  simp only [List.isPrefixOf, Bool.and_true]
  rw [Bool.eq_iff_iff, beq_iff_eq, beq_iff_eq]
  exact ⟨fun h => h.symm, fun h => h.symm⟩

set_option maxHeartbeats 2000000 in
theorem mark_any (s : ByteArray) (w : World) (hs : s.size ≤ 140737488351232) (h0 : 0 < s.size) (hv : Env w) :
    Calls Tryd.prog 11 #[.string s] w fun e w' => e = .returned (gotVal (lexRun s.data.toList)) ∧ Below w.heap.size w w' := by
  have hs' : s.size ≤ maxLen := by unfold maxLen; omega
  have b0 : ∀ o, Below w.heap.size w (w.alloc o) := fun o => (Below.refl w.heap.size w).alloc (Nat.le_refl _) o
  have hx := extract_one s h0
  obtain ⟨c, hc⟩ : ∃ c : UInt8, c = s[0] := ⟨_, rfl⟩
  rw [← hc] at hx
  have hh : s.data.toList.headD 0 = c := by rw [head_of s h0, hc]
  have hI := fun W => Tryd.strings_Index_one ⟨#[40, 41, 91, 93, 60, 62]⟩ c W
  rw [show (⟨#[40, 41, 91, 93, 60, 62]⟩ : ByteArray).data.toList = [40, 41, 91, 93, 60, 62] from rfl, index_br] at hI
  have hkle := brK_le c
  by_cases h1 : brB c = true
  · have hk0 : 0 < brK c := by unfold brB at h1; simpa using h1
    have hfin : gotVal (lexRun s.data.toList) = .tuple #[.agg #[.int .u8 (brK c), .int .i64 0, .int .i64 0, .int .i64 0, .string ⟨#[]⟩], .int .i64 0] := by
      rw [lexRun, hh, if_pos h1]; rfl
    generalize brK c = k at *
    have HE := Lib.hid hfin; clear hfin
    have HI := Lib.hid hI; clear hI
    have HB0 := Lib.hid b0; clear b0
    have HH := Lib.hid hh; clear hh h1
    have HC := Lib.hid hc; clear hc
    go_enter Tryd.func11, Tryd.ntmps11
    go_wp2_with fail
    refine (HI.out _).mono ?_
    rintro e w' ⟨rfl, hw⟩
    subst hw
    go_wp2_with fail
    have e1 : (1 : Int) + ((k : Int) - 1) = k := by omega
    refine bodyPost_ret (v := .tuple #[.agg #[.int .u8 (1 + ((k : Int) - 1)), .int .i64 0, .int .i64 0, .int .i64 0, .string ⟨#[]⟩], .int .i64 0]) (by simp [results, Tryd.results11, go_sem]) rfl ⟨by rw [HE.out, e1], HB0.out _⟩
  have hk0 : brK c = 0 := by
    unfold brB at h1
    simpa using h1
  rw [hk0] at hI
  have hI' : ∀ W, Calls Tryd.prog 23 #[.string ⟨#[40, 41, 91, 93, 60, 62]⟩, .string ⟨#[c]⟩] W fun e w' => e = .returned (.int .i64 (-1)) ∧ w' = W := hI
  have HI := Lib.hid hI'; clear hI hI'
  have HB0 := Lib.hid b0; clear b0
  have hrun : lexRun s.data.toList = if lettersB s.data.toList = true then ((7, 0, s.data.toList), 0) else if (c == 45 || digB c) = true then lexNum s.data.toList else if (c == 35) = true then lexRow (s.data.toList.drop 1) else bad 3 := by
    rw [lexRun, hh, if_neg h1]
  clear hk0 hkle
  have HV := Lib.hid hv; clear hv
  by_cases h2 : lettersB s.data.toList = true
  · have hfin : gotVal (lexRun s.data.toList) = .tuple #[.agg #[.int .u8 7, .int .i64 0, .int .i64 0, .int .i64 0, .string s], .int .i64 0] := by
      rw [hrun, if_pos h2]
      simp only [gotVal, bs_of]; rfl
    have HE := Lib.hid hfin; clear hfin
    have HL := Lib.hid h2; clear h2 hrun hh hc h1
    go_enter Tryd.func11, Tryd.ntmps11
    go_wp2_with fail
    refine (HI.out _).mono ?_
    rintro e w' ⟨rfl, hw⟩
    subst hw
    go_wp2_with fail
    refine (letters_any s _ hs').mono ?_
    rintro e w' ⟨rfl, hw⟩
    subst hw
    rw [HL.out]
    go_wp2_with fail
    refine bodyPost_ret (v := .tuple #[.agg #[.int .u8 7, .int .i64 0, .int .i64 0, .int .i64 0, .string s], .int .i64 0]) (by simp [results, Tryd.results11, go_sem]) rfl ⟨by rw [HE.out], HB0.out _⟩
  rw [if_neg h2] at hrun
  have h2' : lettersB s.data.toList = false := by simpa using h2
  have HL := Lib.hid h2'; clear h2 h2'
  have hcz : (s[0].toNat : Int) = (c.toNat : Int) := by rw [hc]
  by_cases h3 : (c == 45 || digB c) = true
  · rw [if_pos h3] at hrun
    have hN : ∀ W, Env W → _ := fun W hW => number_any s W hs hW
    rw [← hrun] at hN
    generalize lexRun s.data.toList = g at *
    obtain ⟨⟨k, n, l⟩, er⟩ := g
    have hN' : ∀ W, Env W → Calls Tryd.prog 24 #[.string s] W fun e w' => e = .returned (.tuple #[.agg #[.int .u8 k, .int .i64 0, .int .i64 0, .int .i64 n, .string (bs l)], .int .i64 er]) ∧ Below W.heap.size W w' := hN
    have hfin : gotVal ((k, n, l), er) = .tuple #[.agg #[.int .u8 k, .int .i64 0, .int .i64 0, .int .i64 n, .string (bs l)], .int .i64 er] := rfl
    have HE := Lib.hid hfin; clear hfin
    have HN := Lib.hid hN'; clear hN hN' hrun hh hc h1
    have h3' : c = 45 ∨ (48 ≤ (c.toNat : Int) ∧ (c.toNat : Int) ≤ 57) := by
      simp only [Bool.or_eq_true, beq_iff_eq] at h3
      rcases h3 with h | h
      · exact .inl h
      · refine .inr ?_
        unfold digB at h
        simp only [Bool.and_eq_true, decide_eq_true_eq] at h
        omega
    clear h3
    rcases h3' with h3 | ⟨h3, h4⟩
    · have h5 : ((c.toNat : Int) == 45) = true := by rw [h3]; rfl
      clear h3
      go_enter Tryd.func11, Tryd.ntmps11
      go_wp2_with fail
      refine (HI.out _).mono ?_
      rintro e w' ⟨rfl, hw⟩
      subst hw
      go_wp2_with fail
      refine (letters_any s _ hs').mono ?_
      rintro e w' ⟨rfl, hw⟩
      subst hw
      rw [HL.out]
      go_wp2_with fail
      refine (HN.out _ (HV.out.alloc _)).mono ?_
      rintro e w2 ⟨rfl, b2⟩
      have hB := (Blk.new w 30 #[.int .u8 0, .int .i64 0, .int .i64 0, .int .i64 0, .string ⟨#[]⟩]).below b2 (by simp)
      have o := (HB0.out (.cells #[.int .u8 0, .int .i64 0, .int .i64 0, .int .i64 0, .string ⟨#[]⟩] 30)).trans (b2.mono (by simp))
      clear b2
      have HO := Lib.hid o; clear o
      obtain ⟨⟨c0, c1, c2, c3, c4⟩, f0, f1, f2, f3, f4⟩ := hB.five
      obtain ⟨⟨q0, q1, q2, q3, q4⟩, _⟩ := (hB.set5 (.int .u8 k) (.int .i64 0) (.int .i64 0) (.int .i64 n) (.string (bs l))).five
      have HQ := Lib.hid (And.intro q0 (And.intro q1 (And.intro q2 (And.intro q3 q4))))
      clear q0 q1 q2 q3 q4
      generalize hg : w.heap.size = g at *
      have HG := Lib.hid hg; clear hg
      go_wp2_with fail
      obtain ⟨q0, q1, q2, q3, q4⟩ := HQ.out
      refine bodyPost_ret (v := .tuple #[.agg #[.int .u8 k, .int .i64 0, .int .i64 0, .int .i64 n, .string (bs l)], .int .i64 er]) (by simp [results, Tryd.results11, go_sem, q0, q1, q2, q3, q4]) rfl ⟨by rw [HE.out], ?_⟩
      rw [HG.out]
      exact below_set5 HO.out (Nat.le_refl _) _ _ _ _ _
    · have h5 : ((c.toNat : Int) == 45) = false := beq_eq_false_iff_ne.2 (by omega)
      go_enter Tryd.func11, Tryd.ntmps11
      go_wp2_with fail
      refine (HI.out _).mono ?_
      rintro e w' ⟨rfl, hw⟩
      subst hw
      go_wp2_with fail
      refine (letters_any s _ hs').mono ?_
      rintro e w' ⟨rfl, hw⟩
      subst hw
      rw [HL.out]
      go_wp2_with fail
      refine (HN.out _ (HV.out.alloc _)).mono ?_
      rintro e w2 ⟨rfl, b2⟩
      have hB := (Blk.new w 30 #[.int .u8 0, .int .i64 0, .int .i64 0, .int .i64 0, .string ⟨#[]⟩]).below b2 (by simp)
      have o := (HB0.out (.cells #[.int .u8 0, .int .i64 0, .int .i64 0, .int .i64 0, .string ⟨#[]⟩] 30)).trans (b2.mono (by simp))
      clear b2
      have HO := Lib.hid o; clear o
      obtain ⟨⟨c0, c1, c2, c3, c4⟩, f0, f1, f2, f3, f4⟩ := hB.five
      obtain ⟨⟨q0, q1, q2, q3, q4⟩, _⟩ := (hB.set5 (.int .u8 k) (.int .i64 0) (.int .i64 0) (.int .i64 n) (.string (bs l))).five
      have HQ := Lib.hid (And.intro q0 (And.intro q1 (And.intro q2 (And.intro q3 q4))))
      clear q0 q1 q2 q3 q4
      generalize hg : w.heap.size = g at *
      have HG := Lib.hid hg; clear hg
      go_wp2_with fail
      obtain ⟨q0, q1, q2, q3, q4⟩ := HQ.out
      refine bodyPost_ret (v := .tuple #[.agg #[.int .u8 k, .int .i64 0, .int .i64 0, .int .i64 n, .string (bs l)], .int .i64 er]) (by simp [results, Tryd.results11, go_sem, q0, q1, q2, q3, q4]) rfl ⟨by rw [HE.out], ?_⟩
      rw [HG.out]
      exact below_set5 HO.out (Nat.le_refl _) _ _ _ _ _
  rw [if_neg h3] at hrun
  have h5 : ((c.toNat : Int) == 45) = false := by
    refine beq_eq_false_iff_ne.2 (fun e => h3 ?_)
    have : c = 45 := UInt8.toNat_inj.1 (by simpa using (by omega : c.toNat = 45))
    rw [this]; rfl
  have h6 : (c.toNat : Int) < 48 ∨ 57 < (c.toNat : Int) := by
    have : digB c = false := by
      simp only [Bool.or_eq_true, not_or] at h3
      simpa using h3.2
    unfold digB at this
    rw [Bool.and_eq_false_iff] at this
    simp only [decide_eq_false_iff_not] at this
    omega
  clear h3
  have hP : ∀ W, Calls Tryd.prog 25 #[.string s, .string ⟨#[35]⟩] W fun e w' => e = .returned (.bool (c == 35)) ∧ w' = W := fun W => by
    have h := Tryd.strings_HasPrefix s ⟨#[35]⟩ W
    rw [show (⟨#[35]⟩ : ByteArray).data.toList = [35] from rfl, hasPrefix_one s h0, ← hc] at h
    exact h
  by_cases h4 : (c == 35) = true
  · rw [if_pos h4] at hrun
    rw [h4] at hP
    have hD := drop_extract s
    have hN : ∀ W, _ := fun W => row_any (bs (s.data.toList.drop 1)) W (by rw [bs_size, List.length_drop]; simp; omega)
    rw [bs_list, ← hrun] at hN
    generalize lexRun s.data.toList = g at *
    obtain ⟨⟨k, n, l⟩, er⟩ := g
    have hN' : ∀ W, Env W → Calls Tryd.prog 26 #[.string (s.extract 1 s.size)] W fun e w' => e = .returned (.tuple #[.agg #[.int .u8 k, .int .i64 0, .int .i64 0, .int .i64 n, .string (bs l)], .int .i64 er]) ∧ Below W.heap.size W w' := by
      intro W _
      rw [hD]
      exact hN W
    have hfin : gotVal ((k, n, l), er) = .tuple #[.agg #[.int .u8 k, .int .i64 0, .int .i64 0, .int .i64 n, .string (bs l)], .int .i64 er] := rfl
    have HE := Lib.hid hfin; clear hfin
    have HN := Lib.hid hN'; clear hN hN' hrun hh hc h1 h4 hD
    have HP := Lib.hid hP; clear hP
    rcases h6 with h6 | h6
    · 
      go_enter Tryd.func11, Tryd.ntmps11
      go_wp2_with fail
      refine (HI.out _).mono ?_
      rintro e w' ⟨rfl, hw⟩
      subst hw
      go_wp2_with fail
      refine (letters_any s _ hs').mono ?_
      rintro e w' ⟨rfl, hw⟩
      subst hw
      rw [HL.out]
      go_wp2_with fail
      refine (HP.out _).mono ?_
      rintro e w' ⟨rfl, hw⟩
      subst hw
      go_wp2_with fail
      refine (HN.out _ (HV.out.alloc _)).mono ?_
      rintro e w2 ⟨rfl, b2⟩
      have hB := (Blk.new w 30 #[.int .u8 0, .int .i64 0, .int .i64 0, .int .i64 0, .string ⟨#[]⟩]).below b2 (by simp)
      have o := (HB0.out (.cells #[.int .u8 0, .int .i64 0, .int .i64 0, .int .i64 0, .string ⟨#[]⟩] 30)).trans (b2.mono (by simp))
      clear b2
      have HO := Lib.hid o; clear o
      obtain ⟨⟨c0, c1, c2, c3, c4⟩, f0, f1, f2, f3, f4⟩ := hB.five
      obtain ⟨⟨q0, q1, q2, q3, q4⟩, _⟩ := (hB.set5 (.int .u8 k) (.int .i64 0) (.int .i64 0) (.int .i64 n) (.string (bs l))).five
      have HQ := Lib.hid (And.intro q0 (And.intro q1 (And.intro q2 (And.intro q3 q4))))
      clear q0 q1 q2 q3 q4
      generalize hg : w.heap.size = g at *
      have HG := Lib.hid hg; clear hg
      go_wp2_with fail
      obtain ⟨q0, q1, q2, q3, q4⟩ := HQ.out
      refine bodyPost_ret (v := .tuple #[.agg #[.int .u8 k, .int .i64 0, .int .i64 0, .int .i64 n, .string (bs l)], .int .i64 er]) (by simp [results, Tryd.results11, go_sem, q0, q1, q2, q3, q4]) rfl ⟨by rw [HE.out], ?_⟩
      rw [HG.out]
      exact below_set5 HO.out (Nat.le_refl _) _ _ _ _ _
    · 
      go_enter Tryd.func11, Tryd.ntmps11
      go_wp2_with fail
      refine (HI.out _).mono ?_
      rintro e w' ⟨rfl, hw⟩
      subst hw
      go_wp2_with fail
      refine (letters_any s _ hs').mono ?_
      rintro e w' ⟨rfl, hw⟩
      subst hw
      rw [HL.out]
      go_wp2_with fail
      refine (HP.out _).mono ?_
      rintro e w' ⟨rfl, hw⟩
      subst hw
      go_wp2_with fail
      refine (HN.out _ (HV.out.alloc _)).mono ?_
      rintro e w2 ⟨rfl, b2⟩
      have hB := (Blk.new w 30 #[.int .u8 0, .int .i64 0, .int .i64 0, .int .i64 0, .string ⟨#[]⟩]).below b2 (by simp)
      have o := (HB0.out (.cells #[.int .u8 0, .int .i64 0, .int .i64 0, .int .i64 0, .string ⟨#[]⟩] 30)).trans (b2.mono (by simp))
      clear b2
      have HO := Lib.hid o; clear o
      obtain ⟨⟨c0, c1, c2, c3, c4⟩, f0, f1, f2, f3, f4⟩ := hB.five
      obtain ⟨⟨q0, q1, q2, q3, q4⟩, _⟩ := (hB.set5 (.int .u8 k) (.int .i64 0) (.int .i64 0) (.int .i64 n) (.string (bs l))).five
      have HQ := Lib.hid (And.intro q0 (And.intro q1 (And.intro q2 (And.intro q3 q4))))
      clear q0 q1 q2 q3 q4
      generalize hg : w.heap.size = g at *
      have HG := Lib.hid hg; clear hg
      go_wp2_with fail
      obtain ⟨q0, q1, q2, q3, q4⟩ := HQ.out
      refine bodyPost_ret (v := .tuple #[.agg #[.int .u8 k, .int .i64 0, .int .i64 0, .int .i64 n, .string (bs l)], .int .i64 er]) (by simp [results, Tryd.results11, go_sem, q0, q1, q2, q3, q4]) rfl ⟨by rw [HE.out], ?_⟩
      rw [HG.out]
      exact below_set5 HO.out (Nat.le_refl _) _ _ _ _ _
  · rw [if_neg h4] at hrun
    have h4' : (c == 35) = false := by simpa using h4
    rw [h4'] at hP
    have hfin : gotVal (lexRun s.data.toList) = .tuple #[.agg #[.int .u8 0, .int .i64 0, .int .i64 0, .int .i64 0, .string ⟨#[]⟩], .int .i64 3] := by rw [hrun]; rfl
    have HE := Lib.hid hfin; clear hfin hrun hh hc h1 h4 h4'
    have HP := Lib.hid hP; clear hP
    rcases h6 with h6 | h6
    · 
      go_enter Tryd.func11, Tryd.ntmps11
      go_wp2_with fail
      refine (HI.out _).mono ?_
      rintro e w' ⟨rfl, hw⟩
      subst hw
      go_wp2_with fail
      refine (letters_any s _ hs').mono ?_
      rintro e w' ⟨rfl, hw⟩
      subst hw
      rw [HL.out]
      go_wp2_with fail
      refine (HP.out _).mono ?_
      rintro e w' ⟨rfl, hw⟩
      subst hw
      go_wp2_with fail
      refine bodyPost_ret (v := .tuple #[.agg #[.int .u8 0, .int .i64 0, .int .i64 0, .int .i64 0, .string ⟨#[]⟩], .int .i64 3]) (by simp [results, Tryd.results11, go_sem]) rfl ⟨by rw [HE.out], HB0.out _⟩
    · 
      go_enter Tryd.func11, Tryd.ntmps11
      go_wp2_with fail
      refine (HI.out _).mono ?_
      rintro e w' ⟨rfl, hw⟩
      subst hw
      go_wp2_with fail
      refine (letters_any s _ hs').mono ?_
      rintro e w' ⟨rfl, hw⟩
      subst hw
      rw [HL.out]
      go_wp2_with fail
      refine (HP.out _).mono ?_
      rintro e w' ⟨rfl, hw⟩
      subst hw
      go_wp2_with fail
      refine bodyPost_ret (v := .tuple #[.agg #[.int .u8 0, .int .i64 0, .int .i64 0, .int .i64 0, .string ⟨#[]⟩], .int .i64 3]) (by simp [results, Tryd.results11, go_sem]) rfl ⟨by rw [HE.out], HB0.out _⟩
end Go.Proofs.YtcagfnllfenokaaDoor
