/- The walks of LexBack, way by way. -/
import Derived.Test.YtckmhbgpaiocbaaDoorBackW
namespace Go.Proofs.YtckmhbgpaiocbaaDoor
open Go.RowKit

set_option maxRecDepth 100000 in
set_option maxHeartbeats 2000000 in
theorem back_yes_yes (ms : List MarkZ) (A : Option Addr) (n c : Nat) (s : ByteArray) (w : World) (hv : Env w) (hl : ms.length = n) (hn : ms.length ≤ 2000) (hA : Msl w A ms) (hL : Hid (∀ W, Msl W A ms → Calls Tryd.prog 20 #[.slice A n c] W fun e w' => e = .returned (.bool false) ∧ W = w')) (hok : ∀ m ∈ ms, MarkOk m) (hsz : s.size ≤ 20000) (t : List UInt8) (hj : lexJoin ms = (t, 0)) (ht : t.length ≤ 65536) (out : List MarkT) (hout : lexAll t = (out, 0, 0)) (hst : (out.map ofT).map stripZ = ms.map stripZ) (xa : List MarkT) (hx : marks 0 s.data.toList = (xa, 0, 0)) :
    Calls Tryd.prog 6 #[.slice A n c, .string s] w fun e w' => e = .returned (.bool true) ∧ Below w.heap.size w w' := by
  have a1 := fun W h => all_rows s W (by omega) h _ hx
  have A1 := Lib.hid a1
  have HL := Lib.hid hl
  have HN : Hid (ms.length ≤ 1048576) := by show _ ≤ _; omega
  have JJ := fun (W : World) (B : Option Addr) (d : Nat) (hB : Msl W B ms) (hW : Env W) => join_n ms B n d W _ HL.out HN.out hB hok hW hj
  have HJ := Lib.hid JJ
  have GG := fun (W : World) (hB : Msl W A ms) => given_n ms A n c W HL.out HN.out hB
  have HG := Lib.hid GG
  clear a1 JJ GG
  have AO := fun W h => all_of t W ht h _ hout
  have HO := Lib.hid AO
  have hol : out.length = n := by have h := congrArg List.length hst; simp only [List.length_map] at h; omega
  have HOL : Hid ((out.map ofT).length = n) := by show _ = _; rw [List.length_map]; exact hol
  have HOL2 := Lib.hid hol
  have HS := Lib.hid hst
  clear AO hol hst hout ht
  have l1 := marks_len s.data.toList 0
  have hjs := join_all s.data.toList 0 (by simpa using hsz)
  have hts := (marks_size s.data.toList 0).1
  have mok : ∀ m ∈ xa.map ofT, MarkOk m := by
    intro m hm
    obtain ⟨y, hy, rfl⟩ := List.mem_map.1 hm
    exact mark_of_stand (by simp; omega) (marks_stand s.data.toList 0 y (by rw [hx]; exact hy))
  rw [hx] at l1 hjs hts
  have hls : s.data.toList.length = s.size := by simp
  rw [hls] at l1 hts
  simp only at l1 hjs hts
  have LX : Hid ((xa.map ofT).length = xa.length) := by show _ = _; simp
  have KK := fun (W : World) (B : Option Addr) (d : Nat) (hB : Msl W B (xa.map ofT)) (hW : Env W) => join_n (xa.map ofT) B xa.length d W _ LX.out (by rw [LX.out]; omega) hB mok hW hjs
  have HK := Lib.hid KK
  have WW := back_want s hsz xa hx
  have HW := Lib.hid WW
  have TT := fun k => Nat.le_trans (tail_take (xa.map ofT) k) hts
  have HT := Lib.hid TT
  clear KK WW TT hjs hts mok hls
  have HXX := Lib.hid hx; have HJJ := Lib.hid hj; have HOK := Lib.hid hok
  clear hx hj hok hl
  go_enter Tryd.func6, Tryd.ntmps6
  go_wp2_with fail
  refine (hL.out _ hA).mono ?_
  rintro e w0 ⟨rfl, rfl⟩
  go_wp2_with fail
  refine (awake_any _ hv).mono ?_
  rintro e w1 ⟨rfl, b1⟩
  have mA1 := hA.below b1
  go_wp2_with fail
  refine (HG.out _ mA1).mono ?_
  rintro e w2 ⟨B, d, rfl, mB, b2⟩
  have h2 := b1.trans (b2.mono b1.size)
  have mA2 := mA1.below b2
  clear b1 b2 mA1
  go_wp2_with fail
  refine (HJ.out _ B d mB (hv.step h2)).mono ?_
  rintro e w3 ⟨rfl, b3⟩
  have h3 := h2.trans (b3.mono h2.size)
  have mA3 := mA2.below b3
  clear b3 mA2 h2 mB
  go_wp2_with fail
  refine (HO.out _ (hv.step h3)).mono ?_
  rintro e w4 ⟨C, f, rfl, mC, b4⟩
  have h4 := h3.trans (b4.mono h3.size)
  have mA4 := mA3.below b4
  clear b4 mA3 h3
  go_wp2_with fail
  refine (told_row (out.map ofT) C _ f _ (HOL.out.trans HOL2.out.symm) (by rw [HOL.out, ← HL.out]; exact HN.out) mC).mono ?_
  rintro e w5 ⟨D, g, rfl, mD, b5⟩
  have h5 := h4.trans (b5.mono h4.size)
  have mA5 := mA4.below b5
  clear b5 mA4 h4 mC
  go_wp2_with fail
  refine (HG.out _ mA5).mono ?_
  rintro e w6 ⟨E, i, rfl, mE, b6⟩
  have h6 := h5.trans (b6.mono h5.size)
  have mD6 := mD.below b6
  clear b6 mA5 h5 mD
  go_wp2_with fail
  refine (told_row ms E n i _ HL.out HN.out mE).mono ?_
  rintro e w7 ⟨G, q, rfl, mG, b7⟩
  have h7 := h6.trans (b7.mono h6.size)
  have mD7 := mD6.below b7
  clear b7 mD6 h6 mE
  go_wp2_with fail
  refine (strip_n (out.map ofT) ms D G _ _ g q _ (HOL.out.trans HOL2.out.symm) HL.out (by rw [HOL.out, ← HL.out]; exact HN.out) mD7 mG HS.out).mono ?_
  rintro e w8 ⟨rfl, b8⟩
  have h8 := h7.trans (b8.mono h7.size)
  clear b8 h7 mD7 mG
  go_wp2_with fail
  refine (A1.out _ (hv.step h8)).mono ?_
  rintro e w9 ⟨C9, d9, rfl, m9, b9⟩
  have h9 := h8.trans (b9.mono h8.size)
  clear b9 h8
  go_wp2_with fail
  refine (HK.out _ C9 d9 m9 (hv.step h9)).mono ?_
  rintro e w10 ⟨rfl, b10⟩
  have h10 := h9.trans (b10.mono h9.size)
  have m10 := m9.below b10
  clear b10 h9 m9
  have hz : (⟨#[]⟩ : ByteArray) = bs (joinT ((xa.map ofT).take 0)) := rfl
  have HZ := Lib.hid hz; clear hz
  go_wp2_with fail
  go_loopw [15, 16] (fun b i wr => ∃ k : Nat, k ≤ xa.length ∧ i = .int .i64 k ∧ b = .string (bs (joinT ((xa.map ofT).take k))) ∧ ∃ q, wr = w10.drewN q) (fun _ i _ => xa.length - (intOf i).toNat)
  case atStart => exact ⟨0, Nat.zero_le _, rfl, rfl, 0, rfl⟩
  case round =>
    obtain ⟨k, hk, rfl, rfl, q, rfl⟩ := hrel
    by_cases hlt : k < xa.length
    · obtain ⟨m, hm⟩ : ∃ m, xa[k]? = some m := ⟨xa[k], List.getElem?_eq_getElem hlt⟩
      have hmz : (xa.map ofT)[k]? = some (ofT m) := by rw [List.getElem?_map, hm]; rfl
      obtain ⟨e1, e2, e3⟩ := HW.out k m hm
      obtain ⟨s0, s1⟩ := want_step (xa.map ofT) k (ofT m) _ hmz e1
      have t1 := HT.out k
      have m10' := m10
      obtain ⟨g0, o0, rfl, hat⟩ := m10' (by intro e; rw [List.map_eq_nil_iff.1 e] at hlt; simp at hlt)
      obtain ⟨_, c1, c2, _, _⟩ := hat.five hmz
      simp only [ofT] at c1 c2
      have S0 := Lib.hid s0
      have S1 := Lib.hid s1
      have hbl : (bs (joinT ((xa.map ofT).take k))).size ≤ 40000 := by rw [bs_size]; omega
      clear hat e1 s0 s1 hm hmz t1 HZ
      generalize hX : bs (joinT ((xa.map ofT).take k)) = X at *
      clear hX
      obtain ⟨kk, p, r, nn, l⟩ := m
      simp only at c1 c2 e2 e3 S0 S1
      have g0' : decide (r < p) = false := decide_eq_false (by omega)
      have g1' : decide (s.size < r) = false := decide_eq_false (by omega)
      have i0 : (0 : Int) ≤ (p : Int) := by omega
      have i1 : (p : Int) ≤ (r : Int) := by omega
      have i2 : (r : Int) ≤ (s.size : Int) := by omega
      have i3 : (0 : Int) ≤ (k : Int) := by omega
      have i4 : (k : Int) < (xa.length : Int) := by omega
      rcases (by omega : k = 0 ∨ 0 < k) with h0 | h0
      · have s2 := S0.out h0
        subst h0
        simp only [Nat.zero_mul, Nat.add_zero] at c1 c2
        have HS2 := Lib.hid s2; clear s2
        go_wp2_with fail
        go_quiet (fail)
        go_wp2_with fail
        go_quiet (fail)
        go_wp2_with fail
        go_roundw
        case rel => exact ⟨0 + 1, by omega, by go_num, by rw [← HS2.out], _, rfl⟩
        case measure => simp [intOf]; omega
      · have s2 := S1.out h0
        have HS2 := Lib.hid s2; clear s2
        have h0' : (0 : Int) < (k : Int) := by omega
        go_wp2_with fail
        go_quiet (fail)
        go_wp2_with fail
        go_quiet (fail)
        go_wp2_with fail
        go_roundw
        case rel => exact ⟨k + 1, by omega, by go_num, by rw [← HS2.out], _, rfl⟩
        case measure => simp [intOf]; omega
    · obtain rfl : k = xa.length := by omega
      have hfin : (xa.map ofT).take xa.length = xa.map ofT := by rw [← LX.out]; exact List.take_length
      rw [hfin]
      clear hfin
      go_wp2_with fail
      go_ret
      exact ⟨rfl, below_drewN h10 _⟩
set_option maxRecDepth 100000 in
set_option maxHeartbeats 2000000 in
theorem back_yes_no (ms : List MarkZ) (A : Option Addr) (n c : Nat) (s : ByteArray) (w : World) (hv : Env w) (hl : ms.length = n) (hn : ms.length ≤ 2000) (hA : Msl w A ms) (hL : Hid (∀ W, Msl W A ms → Calls Tryd.prog 20 #[.slice A n c] W fun e w' => e = .returned (.bool false) ∧ W = w')) (hok : ∀ m ∈ ms, MarkOk m) (hsz : s.size ≤ 20000) (t : List UInt8) (hj : lexJoin ms = (t, 0)) (ht : t.length ≤ 65536) (out : List MarkT) (hout : lexAll t = (out, 0, 0)) (hst : (out.map ofT).map stripZ = ms.map stripZ) (xa : List MarkT) (xp xe : Nat) (hx : marks 0 s.data.toList = (xa, xp, xe)) (hxe : xe ≠ 0) :
    Calls Tryd.prog 6 #[.slice A n c, .string s] w fun e w' => e = .returned (.bool true) ∧ Below w.heap.size w w' := by
  have a1 := fun W h => all_rows s W (by omega) h _ hx
  have A1 := Lib.hid a1
  have HL := Lib.hid hl
  have HN : Hid (ms.length ≤ 1048576) := by show _ ≤ _; omega
  have JJ := fun (W : World) (B : Option Addr) (d : Nat) (hB : Msl W B ms) (hW : Env W) => join_n ms B n d W _ HL.out HN.out hB hok hW hj
  have HJ := Lib.hid JJ
  have GG := fun (W : World) (hB : Msl W A ms) => given_n ms A n c W HL.out HN.out hB
  have HG := Lib.hid GG
  clear a1 JJ GG
  have AO := fun W h => all_of t W ht h _ hout
  have HO := Lib.hid AO
  have hol : out.length = n := by have h := congrArg List.length hst; simp only [List.length_map] at h; omega
  have HOL : Hid ((out.map ofT).length = n) := by show _ = _; rw [List.length_map]; exact hol
  have HOL2 := Lib.hid hol
  have HS := Lib.hid hst
  clear AO hol hst hout ht
  have hxe' : ((xe : Int) != 0) = true := bne_iff_ne.2 (by omega)
  have HXX := Lib.hid hx; have HJJ := Lib.hid hj; have HOK := Lib.hid hok
  clear hx hj hok hl
  go_enter Tryd.func6, Tryd.ntmps6
  go_wp2_with fail
  refine (hL.out _ hA).mono ?_
  rintro e w0 ⟨rfl, rfl⟩
  go_wp2_with fail
  refine (awake_any _ hv).mono ?_
  rintro e w1 ⟨rfl, b1⟩
  have mA1 := hA.below b1
  go_wp2_with fail
  refine (HG.out _ mA1).mono ?_
  rintro e w2 ⟨B, d, rfl, mB, b2⟩
  have h2 := b1.trans (b2.mono b1.size)
  have mA2 := mA1.below b2
  clear b1 b2 mA1
  go_wp2_with fail
  refine (HJ.out _ B d mB (hv.step h2)).mono ?_
  rintro e w3 ⟨rfl, b3⟩
  have h3 := h2.trans (b3.mono h2.size)
  have mA3 := mA2.below b3
  clear b3 mA2 h2 mB
  go_wp2_with fail
  refine (HO.out _ (hv.step h3)).mono ?_
  rintro e w4 ⟨C, f, rfl, mC, b4⟩
  have h4 := h3.trans (b4.mono h3.size)
  have mA4 := mA3.below b4
  clear b4 mA3 h3
  go_wp2_with fail
  refine (told_row (out.map ofT) C _ f _ (HOL.out.trans HOL2.out.symm) (by rw [HOL.out, ← HL.out]; exact HN.out) mC).mono ?_
  rintro e w5 ⟨D, g, rfl, mD, b5⟩
  have h5 := h4.trans (b5.mono h4.size)
  have mA5 := mA4.below b5
  clear b5 mA4 h4 mC
  go_wp2_with fail
  refine (HG.out _ mA5).mono ?_
  rintro e w6 ⟨E, i, rfl, mE, b6⟩
  have h6 := h5.trans (b6.mono h5.size)
  have mD6 := mD.below b6
  clear b6 mA5 h5 mD
  go_wp2_with fail
  refine (told_row ms E n i _ HL.out HN.out mE).mono ?_
  rintro e w7 ⟨G, q, rfl, mG, b7⟩
  have h7 := h6.trans (b7.mono h6.size)
  have mD7 := mD6.below b7
  clear b7 mD6 h6 mE
  go_wp2_with fail
  refine (strip_n (out.map ofT) ms D G _ _ g q _ (HOL.out.trans HOL2.out.symm) HL.out (by rw [HOL.out, ← HL.out]; exact HN.out) mD7 mG HS.out).mono ?_
  rintro e w8 ⟨rfl, b8⟩
  have h8 := h7.trans (b8.mono h7.size)
  clear b8 h7 mD7 mG
  go_wp2_with fail
  refine (A1.out _ (hv.step h8)).mono ?_
  rintro e w9 ⟨C9, d9, rfl, m9, b9⟩
  have h9 := h8.trans (b9.mono h8.size)
  clear b9 h8
  go_wp2_with fail
  go_ret
  exact ⟨rfl, h9⟩
set_option maxRecDepth 100000 in
set_option maxHeartbeats 2000000 in
theorem back_no_yes (ms : List MarkZ) (A : Option Addr) (n c : Nat) (s : ByteArray) (w : World) (hv : Env w) (hl : ms.length = n) (hn : ms.length ≤ 2000) (hA : Msl w A ms) (hL : Hid (∀ W, Msl W A ms → Calls Tryd.prog 20 #[.slice A n c] W fun e w' => e = .returned (.bool false) ∧ W = w')) (hok : ∀ m ∈ ms, MarkOk m) (hsz : s.size ≤ 20000) (t : List UInt8) (je : Nat) (hj : lexJoin ms = (t, je)) (hje : je ≠ 0) (xa : List MarkT) (hx : marks 0 s.data.toList = (xa, 0, 0)) :
    Calls Tryd.prog 6 #[.slice A n c, .string s] w fun e w' => e = .returned (.bool true) ∧ Below w.heap.size w w' := by
  have a1 := fun W h => all_rows s W (by omega) h _ hx
  have A1 := Lib.hid a1
  have HL := Lib.hid hl
  have HN : Hid (ms.length ≤ 1048576) := by show _ ≤ _; omega
  have JJ := fun (W : World) (B : Option Addr) (d : Nat) (hB : Msl W B ms) (hW : Env W) => join_n ms B n d W _ HL.out HN.out hB hok hW hj
  have HJ := Lib.hid JJ
  have GG := fun (W : World) (hB : Msl W A ms) => given_n ms A n c W HL.out HN.out hB
  have HG := Lib.hid GG
  clear a1 JJ GG
  have l1 := marks_len s.data.toList 0
  have hjs := join_all s.data.toList 0 (by simpa using hsz)
  have hts := (marks_size s.data.toList 0).1
  have mok : ∀ m ∈ xa.map ofT, MarkOk m := by
    intro m hm
    obtain ⟨y, hy, rfl⟩ := List.mem_map.1 hm
    exact mark_of_stand (by simp; omega) (marks_stand s.data.toList 0 y (by rw [hx]; exact hy))
  rw [hx] at l1 hjs hts
  have hls : s.data.toList.length = s.size := by simp
  rw [hls] at l1 hts
  simp only at l1 hjs hts
  have LX : Hid ((xa.map ofT).length = xa.length) := by show _ = _; simp
  have KK := fun (W : World) (B : Option Addr) (d : Nat) (hB : Msl W B (xa.map ofT)) (hW : Env W) => join_n (xa.map ofT) B xa.length d W _ LX.out (by rw [LX.out]; omega) hB mok hW hjs
  have HK := Lib.hid KK
  have WW := back_want s hsz xa hx
  have HW := Lib.hid WW
  have TT := fun k => Nat.le_trans (tail_take (xa.map ofT) k) hts
  have HT := Lib.hid TT
  clear KK WW TT hjs hts mok hls
  have hje' : ((je : Int) == 0) = false := beq_eq_false_iff_ne.2 (by omega)
  have HXX := Lib.hid hx; have HJJ := Lib.hid hj; have HOK := Lib.hid hok
  clear hx hj hok hl
  go_enter Tryd.func6, Tryd.ntmps6
  go_wp2_with fail
  refine (hL.out _ hA).mono ?_
  rintro e w0 ⟨rfl, rfl⟩
  go_wp2_with fail
  refine (awake_any _ hv).mono ?_
  rintro e w1 ⟨rfl, b1⟩
  have mA1 := hA.below b1
  go_wp2_with fail
  refine (HG.out _ mA1).mono ?_
  rintro e w2 ⟨B, d, rfl, mB, b2⟩
  have h2 := b1.trans (b2.mono b1.size)
  have mA2 := mA1.below b2
  clear b1 b2 mA1
  go_wp2_with fail
  refine (HJ.out _ B d mB (hv.step h2)).mono ?_
  rintro e w3 ⟨rfl, b3⟩
  have h3 := h2.trans (b3.mono h2.size)
  have mA3 := mA2.below b3
  clear b3 mA2 h2 mB
  obtain ⟨w8, hw8⟩ : ∃ w8, w8 = w3 := ⟨_, rfl⟩
  subst hw8
  have h8 := h3
  clear h3 mA3
  go_wp2_with fail
  refine (A1.out _ (hv.step h8)).mono ?_
  rintro e w9 ⟨C9, d9, rfl, m9, b9⟩
  have h9 := h8.trans (b9.mono h8.size)
  clear b9 h8
  go_wp2_with fail
  refine (HK.out _ C9 d9 m9 (hv.step h9)).mono ?_
  rintro e w10 ⟨rfl, b10⟩
  have h10 := h9.trans (b10.mono h9.size)
  have m10 := m9.below b10
  clear b10 h9 m9
  have hz : (⟨#[]⟩ : ByteArray) = bs (joinT ((xa.map ofT).take 0)) := rfl
  have HZ := Lib.hid hz; clear hz
  go_wp2_with fail
  go_loopw [15, 16] (fun b i wr => ∃ k : Nat, k ≤ xa.length ∧ i = .int .i64 k ∧ b = .string (bs (joinT ((xa.map ofT).take k))) ∧ ∃ q, wr = w10.drewN q) (fun _ i _ => xa.length - (intOf i).toNat)
  case atStart => exact ⟨0, Nat.zero_le _, rfl, rfl, 0, rfl⟩
  case round =>
    obtain ⟨k, hk, rfl, rfl, q, rfl⟩ := hrel
    by_cases hlt : k < xa.length
    · obtain ⟨m, hm⟩ : ∃ m, xa[k]? = some m := ⟨xa[k], List.getElem?_eq_getElem hlt⟩
      have hmz : (xa.map ofT)[k]? = some (ofT m) := by rw [List.getElem?_map, hm]; rfl
      obtain ⟨e1, e2, e3⟩ := HW.out k m hm
      obtain ⟨s0, s1⟩ := want_step (xa.map ofT) k (ofT m) _ hmz e1
      have t1 := HT.out k
      have m10' := m10
      obtain ⟨g0, o0, rfl, hat⟩ := m10' (by intro e; rw [List.map_eq_nil_iff.1 e] at hlt; simp at hlt)
      obtain ⟨_, c1, c2, _, _⟩ := hat.five hmz
      simp only [ofT] at c1 c2
      have S0 := Lib.hid s0
      have S1 := Lib.hid s1
      have hbl : (bs (joinT ((xa.map ofT).take k))).size ≤ 40000 := by rw [bs_size]; omega
      clear hat e1 s0 s1 hm hmz t1 HZ
      generalize hX : bs (joinT ((xa.map ofT).take k)) = X at *
      clear hX
      obtain ⟨kk, p, r, nn, l⟩ := m
      simp only at c1 c2 e2 e3 S0 S1
      have g0' : decide (r < p) = false := decide_eq_false (by omega)
      have g1' : decide (s.size < r) = false := decide_eq_false (by omega)
      have i0 : (0 : Int) ≤ (p : Int) := by omega
      have i1 : (p : Int) ≤ (r : Int) := by omega
      have i2 : (r : Int) ≤ (s.size : Int) := by omega
      have i3 : (0 : Int) ≤ (k : Int) := by omega
      have i4 : (k : Int) < (xa.length : Int) := by omega
      rcases (by omega : k = 0 ∨ 0 < k) with h0 | h0
      · have s2 := S0.out h0
        subst h0
        simp only [Nat.zero_mul, Nat.add_zero] at c1 c2
        have HS2 := Lib.hid s2; clear s2
        go_wp2_with fail
        go_quiet (fail)
        go_wp2_with fail
        go_quiet (fail)
        go_wp2_with fail
        go_roundw
        case rel => exact ⟨0 + 1, by omega, by go_num, by rw [← HS2.out], _, rfl⟩
        case measure => simp [intOf]; omega
      · have s2 := S1.out h0
        have HS2 := Lib.hid s2; clear s2
        have h0' : (0 : Int) < (k : Int) := by omega
        go_wp2_with fail
        go_quiet (fail)
        go_wp2_with fail
        go_quiet (fail)
        go_wp2_with fail
        go_roundw
        case rel => exact ⟨k + 1, by omega, by go_num, by rw [← HS2.out], _, rfl⟩
        case measure => simp [intOf]; omega
    · obtain rfl : k = xa.length := by omega
      have hfin : (xa.map ofT).take xa.length = xa.map ofT := by rw [← LX.out]; exact List.take_length
      rw [hfin]
      clear hfin
      go_wp2_with fail
      go_ret
      exact ⟨rfl, below_drewN h10 _⟩
set_option maxRecDepth 100000 in
set_option maxHeartbeats 2000000 in
theorem back_no_no (ms : List MarkZ) (A : Option Addr) (n c : Nat) (s : ByteArray) (w : World) (hv : Env w) (hl : ms.length = n) (hn : ms.length ≤ 2000) (hA : Msl w A ms) (hL : Hid (∀ W, Msl W A ms → Calls Tryd.prog 20 #[.slice A n c] W fun e w' => e = .returned (.bool false) ∧ W = w')) (hok : ∀ m ∈ ms, MarkOk m) (hsz : s.size ≤ 20000) (t : List UInt8) (je : Nat) (hj : lexJoin ms = (t, je)) (hje : je ≠ 0) (xa : List MarkT) (xp xe : Nat) (hx : marks 0 s.data.toList = (xa, xp, xe)) (hxe : xe ≠ 0) :
    Calls Tryd.prog 6 #[.slice A n c, .string s] w fun e w' => e = .returned (.bool true) ∧ Below w.heap.size w w' := by
  have a1 := fun W h => all_rows s W (by omega) h _ hx
  have A1 := Lib.hid a1
  have HL := Lib.hid hl
  have HN : Hid (ms.length ≤ 1048576) := by show _ ≤ _; omega
  have JJ := fun (W : World) (B : Option Addr) (d : Nat) (hB : Msl W B ms) (hW : Env W) => join_n ms B n d W _ HL.out HN.out hB hok hW hj
  have HJ := Lib.hid JJ
  have GG := fun (W : World) (hB : Msl W A ms) => given_n ms A n c W HL.out HN.out hB
  have HG := Lib.hid GG
  clear a1 JJ GG
  have hxe' : ((xe : Int) != 0) = true := bne_iff_ne.2 (by omega)
  have hje' : ((je : Int) == 0) = false := beq_eq_false_iff_ne.2 (by omega)
  have HXX := Lib.hid hx; have HJJ := Lib.hid hj; have HOK := Lib.hid hok
  clear hx hj hok hl
  go_enter Tryd.func6, Tryd.ntmps6
  go_wp2_with fail
  refine (hL.out _ hA).mono ?_
  rintro e w0 ⟨rfl, rfl⟩
  go_wp2_with fail
  refine (awake_any _ hv).mono ?_
  rintro e w1 ⟨rfl, b1⟩
  have mA1 := hA.below b1
  go_wp2_with fail
  refine (HG.out _ mA1).mono ?_
  rintro e w2 ⟨B, d, rfl, mB, b2⟩
  have h2 := b1.trans (b2.mono b1.size)
  have mA2 := mA1.below b2
  clear b1 b2 mA1
  go_wp2_with fail
  refine (HJ.out _ B d mB (hv.step h2)).mono ?_
  rintro e w3 ⟨rfl, b3⟩
  have h3 := h2.trans (b3.mono h2.size)
  have mA3 := mA2.below b3
  clear b3 mA2 h2 mB
  obtain ⟨w8, hw8⟩ : ∃ w8, w8 = w3 := ⟨_, rfl⟩
  subst hw8
  have h8 := h3
  clear h3 mA3
  go_wp2_with fail
  refine (A1.out _ (hv.step h8)).mono ?_
  rintro e w9 ⟨C9, d9, rfl, m9, b9⟩
  have h9 := h8.trans (b9.mono h8.size)
  clear b9 h8
  go_wp2_with fail
  go_ret
  exact ⟨rfl, h9⟩

theorem back_any (ms : List MarkZ) (A : Option Addr) (n c : Nat) (s : ByteArray) (w : World) (hv : Env w) (hl : ms.length = n) (hn : ms.length ≤ 140737488351232) (hA : Msl w A ms) (hs : ∀ m ∈ ms, m.2.2.2.2.length ≤ 140737488351232) (hi : ∀ m ∈ ms, IntOk m) (hsz : s.size ≤ 140737488351232) :
    Calls Tryd.prog 6 #[.slice A n c, .string s] w fun e w' => e = .returned (.bool true) ∧ Below w.heap.size w w' := by
  by_cases h : 20000 ≤ longN 0 ms ∨ 20000 < s.size
  · exact back_early ms A n c s w hv hl hn hA hs hsz h
  · have hlong : ¬ 20000 ≤ longN 0 ms := fun e => h (.inl e)
    have h20 : s.size ≤ 20000 := Nat.le_of_not_lt fun e => h (.inr e)
    obtain ⟨g1, g2⟩ := longN_small ms 0 (by omega)
    have hok : ∀ m ∈ ms, MarkOk m := fun m hm => ⟨(hi m hm).1, (hi m hm).2, by have := g2 m hm; omega⟩
    have hL : Hid (∀ W, Msl W A ms → Calls Tryd.prog 20 #[.slice A n c] W fun e w' => e = .returned (.bool false) ∧ W = w') :=
      fun W hA => long_n ms A n c W false hl hn hA hs (decide_eq_false hlong)
    obtain ⟨t, je, hj⟩ : ∃ t je, lexJoin ms = (t, je) := ⟨_, _, rfl⟩
    obtain ⟨xa, xp, xe, hx⟩ : ∃ xa xp xe, marks 0 s.data.toList = (xa, xp, xe) := ⟨_, _, _, rfl⟩
    have hx0 : xe = 0 → marks 0 s.data.toList = (xa, 0, 0) := by
      intro h0
      subst h0
      have := marks_ok (a := 0) (r := s.data.toList) (by rw [hx])
      rw [hx] at this
      simp only at this
      rw [hx, this]
    by_cases hje : je = 0
    · subst hje
      obtain ⟨q1, out, q2, q3⟩ := all_join hj hi
      have q3 : (out.map ofT).map stripZ = ms.map stripZ := by rw [List.map_map]; exact q3
      by_cases hxe : xe = 0
      · exact back_yes_yes ms A n c s w hv hl (by omega) hA hL hok h20 t hj q1 out q2 q3 xa (hx0 hxe)
      · exact back_yes_no ms A n c s w hv hl (by omega) hA hL hok h20 t hj q1 out q2 q3 xa xp xe hx hxe
    · by_cases hxe : xe = 0
      · exact back_no_yes ms A n c s w hv hl (by omega) hA hL hok h20 t je hj hje xa (hx0 hxe)
      · exact back_no_no ms A n c s w hv hl (by omega) hA hL hok h20 t je hj hje xa xp xe hx hxe
end Go.Proofs.YtckmhbgpaiocbaaDoor
