/- The walk of LexShows. -/
import Derived.Test.YtckmhbgpaiocbaaGreatDoorSho8
import Derived.Test.YtckmhbgpaiocbaaGreatDoorLongW
import Derived.Test.YtckmhbgpaiocbaaGreatDoorApp
namespace Go.Proofs.YtckmhbgpaiocbaaGreatDoor
open Go.RowKit

theorem msl_reads {w : World} {A : Option Addr} {ms : List MarkZ} (h : Msl w A ms) : Reads w w.heap.size 5 A ms.length (cellsZ ms) := by
  have hl : ∀ l : List MarkZ, (cellsZ l).length = l.length * 5 := by
    intro l
    induction l with
    | nil => rfl
    | cons m r ih =>
      have e : cellsZ (m :: r) = zCells m ++ cellsZ r := rfl
      rw [e, List.length_append, ih, List.length_cons]
      show 5 + _ = _
      omega
  refine ⟨hl ms, fun h0 => ?_⟩
  have hne : ms ≠ [] := by intro e; rw [e] at h0; simp at h0
  obtain ⟨g, o, rfl, hat⟩ := h hne
  refine ⟨_, rfl, hat.lt hne, fun j u hj => ?_⟩
  have := hat.cells j u hj
  by_cases h1 : j = 0
  · subst h1; simpa [Addr.add] using this
  · simpa [Addr.add, h1] using this
theorem cellsZ_one (ms : List MarkZ) : ∀ u ∈ cellsZ ms, u.oneCell' = true := by
  intro u hu
  obtain ⟨m, _, hm⟩ := List.mem_flatMap.1 hu
  simp [zCells] at hm
  rcases hm with rfl | rfl | rfl | rfl | rfl <;> rfl
theorem given_n (ms : List MarkZ) (A : Option Addr) (n c : Nat) (w : World) (hl : ms.length = n) (hn : ms.length ≤ 1048576) (hA : Msl w A ms) :
    Calls Tryz.prog 9 #[.slice A n c] w fun e w' => ∃ B d, e = .returned (.slice B n d) ∧ Msl w' B ms ∧ Below w.heap.size w w' := by
  subst hl
  refine (given_any ms A c w hn hA).mono ?_
  rintro e w' ⟨v, rfl, hown, hb⟩
  obtain ⟨B, d, rfl, hB⟩ := own_msl hown
  exact ⟨B, d, rfl, hB, hb⟩
theorem told_n (ms : List MarkZ) (A : Option Addr) (n c : Nat) (w : World) (hl : ms.length = n) (hn : ms.length ≤ 1048576) (hA : Msl w A ms) :
    Calls Tryz.prog 11 #[.slice A n c] w fun e w' => ∃ B d, e = .returned (.slice B n d) ∧ Msl w' B ms ∧ Below w.heap.size w w' := by
  subst hl
  refine (told_any ms A c w hn hA).mono ?_
  rintro e w' ⟨v, rfl, hown, hb⟩
  obtain ⟨B, d, rfl, hB⟩ := own_msl hown
  exact ⟨B, d, rfl, hB, hb⟩
theorem rjoin_n (ms : List MarkZ) (A : Option Addr) (n c : Nat) (w : World) (x : List UInt8 × Nat) (hl : ms.length = n) (hn : ms.length ≤ 2000) (hA : Msl w A ms) (hok : ∀ m ∈ ms, RMark m) (hx : lexJoin ms = x) :
    Calls Tryz.prog 10 #[.slice A n c] w fun e w' => e = .returned (.tuple #[.string (bs x.1), .int .i64 x.2]) ∧ Below w.heap.size w w' := by
  subst hl
  subst hx
  exact rjoin_any ms A c w hn hA hok

set_option maxRecDepth 100000 in
set_option maxHeartbeats 2000000 in
theorem shows_any (k : Nat) (a e n : Int) (s : List UInt8) (ms : List MarkZ) (A : Option Addr) (len c : Nat) (w : World) (hv : Env w) (hn0 : -9223372036854775808 ≤ n) (hn1 : n ≤ 9223372036854775807) (hsl : s.length ≤ 140737488351232)
    (hl : ms.length = len) (hlen : len * 48 ≤ 140737488351232) (hA : Msl w A ms) (hb : ∀ m ∈ ms, m.2.2.2.2.length ≤ 140737488351232) (hi : ∀ m ∈ ms, -9223372036854775808 ≤ m.2.2.2.1 ∧ m.2.2.2.1 ≤ 9223372036854775807) :
    Calls Tryz.prog 3 #[.agg #[.int .u8 k, .int .i64 a, .int .i64 e, .int .i64 n, .string (bs s)], .slice A len c] w fun e w' => e = .returned (.bool true) ∧ Below w.heap.size w w' := by
  have hlong : ∀ b, decide (20000 ≤ longN 0 ((k, a, e, n, s) :: ms)) = b → Hid (∀ B d W, Msl W B ((k, a, e, n, s) :: ms) → Calls Tryz.prog 4 #[.slice B (1 + len) d] W fun e' w' => e' = .returned (.bool b) ∧ W = w') := fun b hbb B d W h =>
    long_n _ B (1 + len) d W b (by rw [List.length_cons]; omega) (by rw [List.length_cons]; omega) h (fun m hm => by
      rcases List.mem_cons.1 hm with rfl | hm
      · exact hsl
      · exact hb m hm) hbb
  obtain ⟨i0, hi0, hz0, hz1, hz2⟩ := info_parts (P := Tryz.prog) (e := 23) (z := .agg #[.int .u8 0, .int .i64 0, .int .i64 0, .int .i64 0, .string ⟨#[]⟩]) (size := 5) (bytes := 48) (by kernel_rfl)
  have HU : Tryz.prog.underlying 24 = some (.slice 23) := by kernel_rfl
  obtain ⟨W1, hW1⟩ : ∃ W1, W1 = (w.alloc (.cells #[.int .u8 k, .int .i64 a, .int .i64 e, .int .i64 n, .string (bs s)] 23)) := ⟨_, rfl⟩
  have hb1 : Below w.heap.size w W1 := by rw [hW1]; exact (Below.refl _ _).alloc (Nat.le_refl _) _
  have hs1 : W1.heap.size = w.heap.size + 1 := by rw [hW1]; simp
  have hk1 : Blk W1 w.heap.size 23 #[.int .u8 k, .int .i64 a, .int .i64 e, .int .i64 n, .string (bs s)] := by rw [hW1]; exact Blk.new w _ _
  have hown2 := World.ownsRow_lit (base := w.heap.size) (e := 23) (size := 5) W1 #[.int .u8 k, .int .i64 a, .int .i64 e, .int .i64 n, .string (bs s)] 1 (by omega) (by decide) rfl
  have hb2 := hb1.alloc (by omega : w.heap.size ≤ W1.heap.size) (.cells #[.int .u8 k, .int .i64 a, .int .i64 e, .int .i64 n, .string (bs s)] 23)
  have hk2 := hk1.alloc (.cells #[.int .u8 k, .int .i64 a, .int .i64 e, .int .i64 n, .string (bs s)] 23)
  have hr2 := (msl_reads (hA.below hb2)).more (Nat.le_refl _)
  rw [hl] at hr2
  have hne2 : W1.heap.size ≠ w.heap.size := by omega
  have hfin : ∀ v' w3, w3.ownsRow w.heap.size 23 5 v' (1 + len) ([Value.int .u8 k, .int .i64 a, .int .i64 e, .int .i64 n, .string (bs s)] ++ cellsZ ms) → ∃ B d, v' = .slice B (1 + len) d ∧ Msl w3 B ((k, a, e, n, s) :: ms) := fun v' w3 h => by
    have hl' : ((k, a, e, n, s) :: ms).length = 1 + len := by rw [List.length_cons]; omega
    rw [← hl'] at h ⊢
    exact own_msl (ms := (k, a, e, n, s) :: ms) h
  have HFIN := Lib.hid hfin
  have HL := Lib.hid hl
  subst hW1
  simp only [World.size_alloc] at hown2 hs1 hne2
  have hlA := hA
  clear hfin hl hs1 hk1 hb1
  by_cases hlg : 20000 ≤ longN 0 ((k, a, e, n, s) :: ms)
  · have HLG := hlong true (decide_eq_true hlg)
    clear hlong hlg hi hb
    go_enter Tryz.func3, Tryz.ntmps3
    go_wp2_with (first
      | (at_builtin; refine wpList_append_any _ rfl _ _ 24 rfl w.heap.size 23 i0 (.agg #[.int .u8 0, .int .i64 0, .int .i64 0, .int .i64 0, .string ⟨#[]⟩]) 5 48 HU hi0 hz0 hz1 hz2 rfl (by decide) _ _ _ rfl hown2 _ A len c (cellsZ ms) rfl hr2 (cellsZ_one ms) ?_ ?_ ?_ ?_
         · unfold maxLen; omega
         · omega
         · simp; omega
         intro v' w3 hown3 hgrow3 _
         have hb3 : Below w.heap.size w w3 := Below.grown hb2 hgrow3 (by simp; omega) (fun j hj => by cases hj; show w.heap.size ≤ w.heap.size + 1; omega)
         have hk3 := hk2.grown hgrow3 (by show some w.heap.size ≠ some (w.heap.size + 1); intro h; injection h with h; omega)
         obtain ⟨B, d, rfl, hB⟩ := HFIN.out _ _ hown3
         have XX := Lib.hid (And.intro hB (And.intro hb3 (And.intro hk3 (hA.below hb3))))
         clear hown3 hgrow3 hb3 hk3 hB hown2 hr2 hk2 hb2))
    go_wp2_with fail
    refine (HLG.out _ _ _ XX.out.1).mono ?_
    rintro e' w4 ⟨rfl, rfl⟩
    go_wp2_with fail
    refine (awake_any _ (hv.step XX.out.2.1)).mono ?_
    rintro e' w5 ⟨rfl, hb5⟩
    have HF := Lib.hid (XX.out.2.1.trans (hb5.mono XX.out.2.1.size))
    go_wp2_with fail
    go_ret
    exact ⟨rfl, HF.out⟩
  · have hsm := longN_small ((k, a, e, n, s) :: ms) 0 (by omega)
    have HLG := hlong false (decide_eq_false hlg)
    have hs20 : s.length < 20000 := hsm.2 _ List.mem_cons_self
    have hc20 : ms.length ≤ 2000 := by have := hsm.1; rw [List.length_cons] at this; omega
    have HOK : Hid (∀ m ∈ ms, RMark m) := fun m hm => ⟨(hi m hm).1, (hi m hm).2, hsm.2 m (List.mem_cons_of_mem _ hm)⟩
    have HOK2 : Hid (∀ m ∈ ms, MarkOk m) := fun m hm => ⟨(hi m hm).1, (hi m hm).2, by have := hsm.2 m (List.mem_cons_of_mem _ hm); omega⟩
    have HS1 : Hid (∀ W, Env W → Calls Tryz.prog 6 #[.agg #[.int .u8 k, .int .i64 a, .int .i64 e, .int .i64 n, .string (bs s)]] W fun e' w' => e' = .returned (.tuple #[.string (bs (lexShow k n s).1), .int .i64 (lexShow k n s).2]) ∧ Below W.heap.size W w') := fun W hW => show_any k a e n s W (by omega) hn0 hn1 hW
    have HS2 : Hid (∀ W, Calls Tryz.prog 7 #[.agg #[.int .u8 k, .int .i64 a, .int .i64 e, .int .i64 n, .string (bs s)]] W fun e' w' => e' = .returned (.tuple #[.string (bs (lexShow k n s).1), .int .i64 (lexShow k n s).2]) ∧ Below W.heap.size W w') := fun W => rshow_any k a e n s W hs20 hn0 hn1
    have HJ1 : Hid (∀ B d W, Env W → Msl W B ms → Calls Tryz.prog 8 #[.slice B len d] W fun e' w' => e' = .returned (.tuple #[.string (bs (lexJoin ms).1), .int .i64 (lexJoin ms).2]) ∧ Below W.heap.size W w') := fun B d W hW h => join_n ms B len d W _ HL.out (by omega) h HOK2.out hW rfl
    have HJ2 : Hid (∀ B d W, Msl W B ms → Calls Tryz.prog 10 #[.slice B len d] W fun e' w' => e' = .returned (.tuple #[.string (bs (lexJoin ms).1), .int .i64 (lexJoin ms).2]) ∧ Below W.heap.size W w') := fun B d W h => rjoin_n ms B len d W _ HL.out hc20 h HOK.out rfl
    have HG : Hid (∀ B d W, Msl W B ms → Calls Tryz.prog 9 #[.slice B len d] W fun e w' => ∃ B' d', e = .returned (.slice B' len d') ∧ Msl w' B' ms ∧ Below W.heap.size W w') := fun B d W h => given_n ms B len d W HL.out (by omega) h
    have HT : Hid (∀ B d W, Msl W B ms → Calls Tryz.prog 11 #[.slice B len d] W fun e w' => ∃ B' d', e = .returned (.slice B' len d') ∧ Msl w' B' ms ∧ Below W.heap.size W w') := fun B d W h => told_n ms B len d W HL.out (by omega) h
    clear hlong hlg hi hb hsm HOK HOK2 hs20 hc20
    generalize (lexShow k n s).1 = X1 at *
    generalize (lexShow k n s).2 = E1 at *
    generalize (lexJoin ms).1 = X2 at *
    generalize (lexJoin ms).2 = E2 at *
    go_enter Tryz.func3, Tryz.ntmps3
    go_wp2_with (first
      | (at_builtin; refine wpList_append_any _ rfl _ _ 24 rfl w.heap.size 23 i0 (.agg #[.int .u8 0, .int .i64 0, .int .i64 0, .int .i64 0, .string ⟨#[]⟩]) 5 48 HU hi0 hz0 hz1 hz2 rfl (by decide) _ _ _ rfl hown2 _ A len c (cellsZ ms) rfl hr2 (cellsZ_one ms) ?_ ?_ ?_ ?_
         · unfold maxLen; omega
         · omega
         · simp; omega
         intro v' w3 hown3 hgrow3 _
         have hb3 : Below w.heap.size w w3 := Below.grown hb2 hgrow3 (by simp; omega) (fun j hj => by cases hj; show w.heap.size ≤ w.heap.size + 1; omega)
         have hk3 := hk2.grown hgrow3 (by show some w.heap.size ≠ some (w.heap.size + 1); intro h; injection h with h; omega)
         obtain ⟨B, d, rfl, hB⟩ := HFIN.out _ _ hown3
         have XX := Lib.hid (And.intro hB (And.intro hb3 (And.intro hk3 (hA.below hb3))))
         clear hown3 hgrow3 hb3 hk3 hB hown2 hr2 hk2 hb2))
    go_wp2_with fail
    refine (HLG.out _ _ _ XX.out.1).mono ?_
    rintro e' w4 ⟨rfl, rfl⟩
    obtain ⟨hB3, hb3, hk3, hA3⟩ := XX.out
    obtain ⟨⟨c0, c1, c2, c3, c4⟩, _⟩ := hk3.five
    clear hB3
    go_wp2_with fail
    refine (HS1.out _ (hv.step hb3)).mono ?_
    rintro e' w5 ⟨rfl, hb5⟩
    have hk5 := hk3.below hb5 hk3.lt
    have hx5 := hb3.trans (hb5.mono hb3.size)
    have hA5 := hA3.below hb5
    clear c0 c1 c2 c3 c4 hk3 hb3 hb5 hA3
    obtain ⟨⟨c0, c1, c2, c3, c4⟩, _⟩ := hk5.five
    go_wp2_with fail
    refine (HS2.out _).mono ?_
    rintro e' w6 ⟨rfl, hb6⟩
    have hx6 := hx5.trans (hb6.mono hx5.size)
    have hA6 := hA5.below hb6
    clear c0 c1 c2 c3 c4 hk5 hx5 hA5 hb6
    go_wp2_with fail
    refine (HG.out _ _ _ hA6).mono ?_
    rintro e' w7 ⟨B7, d7, rfl, hB7, hb7⟩
    have hx7 := hx6.trans (hb7.mono hx6.size)
    have hA7 := hA6.below hb7
    clear hx6 hA6 hb7
    go_wp2_with fail
    refine (HJ1.out _ _ _ (hv.step hx7) hB7).mono ?_
    rintro e' w8 ⟨rfl, hb8⟩
    have hx8 := hx7.trans (hb8.mono hx7.size)
    have hA8 := hA7.below hb8
    clear hx7 hA7 hb8 hB7
    go_wp2_with fail
    refine (HG.out _ _ _ hA8).mono ?_
    rintro e' w9 ⟨B9, d9, rfl, hB9, hb9⟩
    have hx9 := hx8.trans (hb9.mono hx8.size)
    clear hx8 hA8 hb9
    go_wp2_with fail
    refine (HT.out _ _ _ hB9).mono ?_
    rintro e' w10 ⟨B10, d10, rfl, hB10, hb10⟩
    have hx10 := hx9.trans (hb10.mono hx9.size)
    clear hx9 hB9 hb10
    go_wp2_with fail
    refine (HJ2.out _ _ _ hB10).mono ?_
    rintro e' w11 ⟨rfl, hb11⟩
    have hx11 := hx10.trans (hb11.mono hx10.size)
    clear hx10 hB10 hb11
    go_wp2_with fail
    refine (awake_any _ (hv.step hx11)).mono ?_
    rintro e' w12 ⟨rfl, hb12⟩
    have HF := Lib.hid (hx11.trans (hb12.mono hx11.size))
    clear hx11 hb12
    go_wp2_with fail
    go_ret
    exact ⟨rfl, HF.out⟩
end Go.Proofs.YtckmhbgpaiocbaaGreatDoor
