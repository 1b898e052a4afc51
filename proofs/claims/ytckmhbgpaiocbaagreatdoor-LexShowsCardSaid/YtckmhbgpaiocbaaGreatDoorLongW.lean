/- The walk of long; Join of whatever slice of marks. -/
import Derived.Test.YtckmhbgpaiocbaaGreatDoorToldW
namespace Go.Proofs.YtckmhbgpaiocbaaGreatDoor
open Go.RowKit

/-- What long counts, from a count on. -/
def longN : Nat → List MarkZ → Nat
  | n, [] => n
  | n, m :: r => if n < 20000 then longN (n + 10 + min 20000 m.2.2.2.2.length) r else n
theorem longN_ge : ∀ (ms : List MarkZ) (n : Nat), n ≤ longN n ms
  | [], n => Nat.le_refl _
  | m :: r, n => by
    rw [longN]
    split
    · have := longN_ge r (n + 10 + min 20000 m.2.2.2.2.length); omega
    · exact Nat.le_refl _
theorem longN_full (ms : List MarkZ) (n : Nat) (h : 20000 ≤ n) : longN n ms = n := by
  cases ms with
  | nil => rfl
  | cons m r => rw [longN, if_neg (by omega)]
theorem longN_small : ∀ (ms : List MarkZ) (n : Nat), longN n ms < 20000 → n + 10 * ms.length ≤ longN n ms ∧ ∀ m ∈ ms, m.2.2.2.2.length < 20000
  | [], n, _ => ⟨by simp [longN], fun m hm => by simp at hm⟩
  | m :: r, n, h => by
    have hg := longN_ge (m :: r) n
    have hn2 : n < 20000 := by omega
    rw [longN, if_pos hn2] at h ⊢
    obtain ⟨h1, h2⟩ := longN_small r _ h
    have hg2 := longN_ge r (n + 10 + min 20000 m.2.2.2.2.length)
    refine ⟨by rw [List.length_cons]; omega, fun x hx => ?_⟩
    rcases List.mem_cons.1 hx with rfl | hx
    · omega
    · exact h2 x hx

theorem dec_cast (q : Nat) : decide ((20000 : Int) ≤ (q : Int)) = decide (20000 ≤ q) := by
  by_cases h : 20000 ≤ q
  · rw [decide_eq_true h, decide_eq_true (by omega)]
  · rw [decide_eq_false h, decide_eq_false (by omega)]

set_option maxRecDepth 100000 in
set_option maxHeartbeats 1000000 in
theorem long_any (ms : List MarkZ) (A : Option Addr) (c : Nat) (w : World) (hn : ms.length ≤ 140737488351232) (hA : Msl w A ms) (hs : ∀ m ∈ ms, m.2.2.2.2.length ≤ 140737488351232) :
    Calls Tryz.prog 4 #[.slice A ms.length c] w fun e w' => e = .returned (.bool (decide (20000 ≤ longN 0 ms))) ∧ w = w' := by
  have HS := Lib.hid hs; clear hs
  have h0 : Hid (longN 0 (ms.drop 0) = longN 0 ms) := rfl
  go_enter Tryz.func4, Tryz.ntmps4
  go_wp2_with fail
  go_loop [3, 4] (fun n i => ∃ k q : Nat, k ≤ ms.length ∧ i = .int .i64 k ∧ n = .int .i64 q ∧ q ≤ 40010 ∧ Hid (longN q (ms.drop k) = longN 0 ms)) (fun _ i => ms.length - (intOf i).toNat)
  case atStart => exact ⟨0, 0, Nat.zero_le _, rfl, rfl, by omega, h0⟩
  case round =>
    obtain ⟨k, q, hk, rfl, rfl, hq, HQ⟩ := hrel
    by_cases hlt : k < ms.length
    · obtain ⟨m, hm⟩ : ∃ m, ms[k]? = some m := ⟨ms[k], List.getElem?_eq_getElem hlt⟩
      have hdrop : ms.drop k = m :: ms.drop (k + 1) := by
        rw [List.drop_eq_getElem_cons hlt]
        rw [List.getElem?_eq_getElem hlt] at hm
        rw [Option.some.inj hm]
      by_cases hq2 : q < 20000
      · have hstep : longN (q + 10 + min 20000 m.2.2.2.2.length) (ms.drop (k + 1)) = longN 0 ms := by
          rw [← HQ.out, hdrop, longN, if_pos hq2]
        have HST := Lib.hid hstep
        have hml := HS.out m (List.mem_of_getElem? hm)
        obtain ⟨g, o, rfl, hat⟩ := hA (by intro h; rw [h] at hlt; simp at hlt)
        obtain ⟨_, _, _, _, c4⟩ := hat.five hm
        clear hstep HQ hdrop hm
        obtain ⟨kk, a, e, n, l⟩ := m
        simp only at c4 hml HST
        have hbl : (bs l).size = l.length := bs_size l
        by_cases hll : l.length ≤ 20000
        · have hle : min 20000 l.length = l.length := by omega
          rw [hle] at HST
          clear hle
          go_wp2_with fail
          go_round
          case rel => exact ⟨k + 1, q + 10 + l.length, by omega, by go_num, by go_num, by omega, HST⟩
          case measure => simp [intOf]; omega
        · have hle : min 20000 l.length = 20000 := by omega
          rw [hle] at HST
          clear hle
          go_wp2_with fail
          go_round
          case rel => exact ⟨k + 1, q + 10 + 20000, by omega, by go_num, by go_num, by omega, HST⟩
          case measure => simp [intOf]; omega
      · have he : longN 0 ms = q := by rw [← HQ.out, longN_full _ _ (by omega)]
        have HE := Lib.hid he
        clear he HQ hdrop hm
        have hq3 : (20000 : Int) ≤ (q : Int) := by omega
        go_wp2_with fail
        go_ret
        exact ⟨ret_bool (a := true) (by rw [HE.out]; exact (decide_eq_true (by omega)).symm), rfl⟩
    · obtain rfl : k = ms.length := by omega
      have he : longN 0 ms = q := by rw [← HQ.out, List.drop_length, longN]
      have HE := Lib.hid he
      clear he HQ
      go_wp2_with fail
      go_ret
      exact ⟨ret_bool (a := decide ((20000 : Int) ≤ (q : Int))) (by rw [HE.out]; exact dec_cast q), rfl⟩
theorem long_n (ms : List MarkZ) (A : Option Addr) (n c : Nat) (w : World) (b : Bool) (hl : ms.length = n) (hn : ms.length ≤ 140737488351232) (hA : Msl w A ms) (hs : ∀ m ∈ ms, m.2.2.2.2.length ≤ 140737488351232) (hb : decide (20000 ≤ longN 0 ms) = b) :
    Calls Tryz.prog 4 #[.slice A n c] w fun e w' => e = .returned (.bool b) ∧ w = w' := by
  subst hl; subst hb; exact long_any ms A c w hn hA hs

set_option maxRecDepth 100000 in
set_option maxHeartbeats 1000000 in
theorem join_none (A : Option Addr) (c : Nat) (w : World) :
    Calls Tryz.prog 8 #[.slice A 0 c] w fun e w' => e = .returned (showVal ([], 0)) ∧ Below w.heap.size w w' := by
  go_enter Tryz.func8, Tryz.ntmps8
  go_wp2_with fail
  go_loopw [11] (fun i wr => i = .int .i64 0 ∧ Lib.IsBuilderF 57 5 w.heap.size w.heap.size (Lib.byteCells []) wr ∧ Below w.heap.size w wr) (fun _ _ => 0)
  case atStart =>
    refine ⟨rfl, ?_, (Below.refl _ _).alloc (Nat.le_refl _) _⟩
    exact .inl ⟨Nat.le_refl _, .slice none 0 0, heap_alloc_new w _, ⟨by simp [Lib.byteCells], .inl ⟨rfl, rfl⟩⟩, by simp [Value.ownBlock]⟩
  case round =>
    obtain ⟨rfl, hbld, hbw⟩ := hrel
    have hl1 : ¬ (65536 : Int) < ((Lib.byteCells []).length : Int) := by rw [Lib.byteCells_length]; decide
    go_wp2_with fail
    refine (Tryz.Builder_Len_f w.heap.size w.heap.size _ _ hbld).mono ?_
    rintro e' w1 ⟨rfl, hw⟩
    subst hw
    go_wp2_with fail
    refine (Tryz.Builder_String_any_f w.heap.size w.heap.size [] _ hbld hbw.size).mono ?_
    rintro e' w2 ⟨rfl, _, hb2⟩
    go_wp2_with fail
    refine bodyPost_ret (v := .tuple #[.string (bs []), .int .i64 0]) (by simp [results, Tryz.results8, go_sem, bs]) rfl ⟨rfl, hbw.trans hb2⟩
theorem join_n (ms : List MarkZ) (A : Option Addr) (n c : Nat) (w : World) (x : List UInt8 × Nat) (hl : ms.length = n) (hn : ms.length ≤ 1048576) (hA : Msl w A ms) (hok : ∀ m ∈ ms, MarkOk m) (hv : Env w) (hx : lexJoin ms = x) :
    Calls Tryz.prog 8 #[.slice A n c] w fun e w' => e = .returned (.tuple #[.string (bs x.1), .int .i64 x.2]) ∧ Below w.heap.size w w' := by
  subst hl
  subst hx
  by_cases h0 : ms = []
  · subst h0
    exact join_none A c w
  · obtain ⟨g, o, rfl, hat⟩ := hA h0
    exact join_any ms g o c w hn hat hok hv
end Go.Proofs.YtckmhbgpaiocbaaGreatDoor
