/- The walk of LexParts. -/
import Derived.Test.YtckmhbgpaiocbaaDoorMovedW
import Derived.Test.YtckmhbgpaiocbaaDoorApp
import Derived.Test.YtckmhbgpaiocbaaDoorBytesW
namespace Go.Proofs.YtckmhbgpaiocbaaDoor
open Go.RowKit

/-- What All returns, with the form of the row written out. -/
theorem all_rows (s : ByteArray) (w : World) (hs : s.size ≤ 65536) (hv : Env w) (x : List MarkT × Nat × Nat) (hx : marks 0 s.data.toList = x) :
    Calls Tryd.prog 15 #[.string s] w fun e w' => ∃ A c, e = .returned (.tuple #[.slice A x.1.length c, .int .i64 x.2.1, .int .i64 x.2.2]) ∧ Msl w' A (x.1.map ofT) ∧ Below w.heap.size w w' := by
  refine (all_any s w hs hv).mono ?_
  rintro e w' ⟨v, rfl, hown, hb⟩
  rw [marks_lex _ (by simpa using hs), hx] at hown ⊢
  rw [← cellsZ_of] at hown
  have hl : x.1.length = (x.1.map ofT).length := by simp
  rw [hl] at hown
  obtain ⟨A, c, rfl, hA⟩ := own_msl hown
  exact ⟨A, c, by rw [← hl], hA, hb⟩
theorem marks_len (s : List UInt8) (a : Nat) : (marks a s).1.length ≤ s.length := (marks_size s a).2
theorem marks_places (s : List UInt8) (a : Nat) (h : a + s.length ≤ 1048576) : ∀ m ∈ (marks a s).1.map ofT, PlaceOk m := by
  intro m hm
  obtain ⟨x, hx, rfl⟩ := List.mem_map.1 hm
  have hs := marks_stand s a x hx
  have h1 := hs.at1
  have h2 := hs.at2
  have h3 := hs.at3
  unfold PlaceOk ofT
  refine ⟨?_, ?_, ?_, ?_⟩ <;> simp only <;> omega
theorem string_three (s t : ByteArray) : (s ++ ⟨#[32]⟩ ++ t).data.toList = s.data.toList ++ 32 :: t.data.toList := by
  rw [ByteArray.data_append, Array.toList_append, ByteArray.data_append, Array.toList_append]
  simp
theorem zCells_one (ms : List MarkZ) : ∀ u ∈ cellsZ ms, u.oneCell' = true := by
  intro u hu
  unfold cellsZ at hu
  obtain ⟨m, _, hm⟩ := List.mem_flatMap.1 hu
  simp [zCells] at hm
  rcases hm with rfl | rfl | rfl | rfl | rfl <;> rfl

theorem told_n (ms : List MarkZ) (A : Option Addr) (n c : Nat) (w : World) (hl : ms.length = n) (hn : ms.length ≤ 1048576) (hA : Msl w A ms) :
    Calls Tryd.prog 17 #[.slice A n c] w fun e w' => ∃ v, e = .returned v ∧ w'.ownsRow w.heap.size 28 5 v ms.length (cellsZ ms) ∧ Below w.heap.size w w' := by
  subst hl; exact told_any ms A c w hn hA
theorem moved_n (ms : List MarkZ) (A : Option Addr) (n c : Nat) (d : Int) (w : World) (hl : ms.length = n) (hn : ms.length ≤ 1048576) (hA : Msl w A ms) (hd0 : 0 ≤ d) (hd1 : d ≤ 1048576) (hok : ∀ m ∈ ms, PlaceOk m) :
    Calls Tryd.prog 22 #[.slice A n c, .int .i64 d] w fun e w' => ∃ v, e = .returned v ∧ w'.ownsRow w.heap.size 28 5 v ms.length (cellsZ (ms.map (shiftZ d))) ∧ Below w.heap.size w w' := by
  subst hl; exact moved_any ms A c d w hn hA hd0 hd1 hok
theorem same_n (ms : List MarkZ) (A B : Option Addr) (n m c d : Nat) (w : World) (hl : ms.length = n) (hm : ms.length = m) (hn : ms.length ≤ 1048576) (hA : Msl w A ms) (hB : Msl w B ms) :
    Calls Tryd.prog 16 #[.slice A n c, .slice B m d, .bool true] w fun e w' => e = .returned (.bool true) ∧ Below w.heap.size w w' := by
  subst hl; subst hm; exact same_places ms A B c d w hn hA hB

set_option maxRecDepth 100000 in
set_option maxHeartbeats 1600000 in
theorem parts_any (s t : ByteArray) (w : World) (hv : Env w) (hs : s.size ≤ 140737488351232) (ht : t.size ≤ 140737488351232) :
    Calls Tryd.prog 7 #[.string s, .string t] w fun e w' => e = .returned (.bool true) ∧ Below w.heap.size w w' := by
  by_cases h20 : 20000 < s.size + t.size
  · have h20' : (20000 : Int) < (s.size : Int) + (t.size : Int) := by omega
    go_enter Tryd.func7, Tryd.ntmps7
    go_wp2_with fail
    refine (awake_any _ hv).mono ?_
    rintro e w1 ⟨rfl, hb⟩
    go_wp2_with fail
    go_ret
    exact ⟨rfl, hb⟩
  · have h20' : ¬ (20000 : Int) < (s.size : Int) + (t.size : Int) := by omega
    have hls : s.data.toList.length = s.size := by simp
    have hlt : t.data.toList.length = t.size := by simp
    have hsum : marks 0 (s.data.toList ++ 32 :: t.data.toList) = behind (marks 0 s.data.toList) (shiftA (s.size + 1) (marks 0 t.data.toList)) := by
      rw [marks_two, ← marks_shift, hls, Nat.zero_add, Nat.zero_add]
    have l1 := marks_len s.data.toList 0
    have l2 := marks_len t.data.toList 0
    have p2 := marks_places t.data.toList 0 (by omega)
    have n1 : (marks 0 s.data.toList).2.2 ≠ 0 → (marks 0 s.data.toList).1 = [] := marks_none
    have n2 : (marks 0 t.data.toList).2.2 ≠ 0 → (marks 0 t.data.toList).1 = [] := marks_none
    have o1 : (marks 0 s.data.toList).2.2 = 0 → (marks 0 s.data.toList).2.1 = 0 := marks_ok
    have o2 : (marks 0 t.data.toList).2.2 = 0 → (marks 0 t.data.toList).2.1 = 0 := marks_ok
    have q2 := marks_place t.data.toList 0
    rw [hls] at l1
    rw [hlt] at l2 q2
    have a1 := fun W h => all_rows s W (by omega) h _ rfl
    have a2 := fun W h => all_rows t W (by omega) h _ rfl
    have a3 := fun W h => all_rows (s ++ ⟨#[32]⟩ ++ t) W (by rw [ByteArray.size_append, ByteArray.size_append]; show s.size + 1 + t.size ≤ _; omega) h (behind (marks 0 s.data.toList) (shiftA (s.size + 1) (marks 0 t.data.toList))) (by rw [string_three, hsum])
    clear hsum
    generalize marks 0 s.data.toList = x at *
    generalize marks 0 t.data.toList = y at *
    obtain ⟨xa, xp, xe⟩ := x
    obtain ⟨ya, yp, ye⟩ := y
    simp only at l1 l2 p2 q2 n1 n2 o1 o2 a1 a2
    have A1 := Lib.hid a1
    have A2 := Lib.hid a2
    have A3 := Lib.hid a3
    clear a1 a2 a3 hls hlt
    by_cases hx : xe = 0
    · subst hx
      obtain rfl := o1 rfl
      by_cases hy : ye = 0
      · subst hy
        obtain rfl := o2 rfl
        have e3 : behind (xa, 0, 0) (shiftA (s.size + 1) (ya, 0, 0)) = (xa ++ ya.map (shiftM (s.size + 1)), 0, 0) := rfl
        have P2 := Lib.hid p2
        have A4 := A3
        rw [e3] at A4
        clear A3 e3 p2 n1 n2 o1 o2
        go_enter Tryd.func7, Tryd.ntmps7
        go_wp2_with fail
        refine (awake_any _ hv).mono ?_
        rintro e w1 ⟨rfl, b1⟩
        go_wp2_with fail
        refine (A1.out _ (hv.step b1)).mono ?_
        rintro e w2 ⟨c1, d1, rfl, m1, b2⟩
        have h2 := b1.trans (b2.mono b1.size)
        clear b1 b2
        go_wp2_with fail
        refine (A2.out _ (hv.step h2)).mono ?_
        rintro e w3 ⟨c2, d2, rfl, m2, b3⟩
        have h3 := h2.trans (b3.mono h2.size)
        have m1' := m1.below b3
        clear h2 m1
        go_wp2_with fail
        refine (A4.out _ (hv.step h3)).mono ?_
        rintro e w4 ⟨c3, d3, rfl, m3, b4⟩
        have h4 := h3.trans (b4.mono h3.size)
        have m1 := m1'.below b4
        have m2' := m2.below b4
        clear h3 b3 b4 m1' m2
        obtain ⟨i0, hi, hz0, hz1, hz2⟩ := info_parts (P := Tryd.prog) (e := 28) (z := .agg #[.int .u8 0, .int .i64 0, .int .i64 0, .int .i64 0, .string ⟨#[]⟩]) (size := 5) (bytes := 48) (by kernel_rfl)
        have HU : Tryd.prog.underlying 32 = some (.slice 28) := by kernel_rfl
        have HI := Lib.hid (And.intro hi (And.intro hz0 (And.intro hz1 (And.intro hz2 HU))))
        clear hi hz0 hz1 hz2 HU
        have hmap : (xa ++ ya.map (shiftM (s.size + 1))).map ofT = xa.map ofT ++ (ya.map ofT).map (shiftZ ((s.size + 1 : Nat) : Int)) := by
          rw [List.map_append, List.map_map, List.map_map]
          exact congrArg _ (List.map_congr_left fun m _ => (shiftZ_of _ m).symm)
        rw [hmap] at m3
        clear hmap
        have L1 : Hid ((xa.map ofT).length = xa.length) := by show _ = _; simp
        have L2 : Hid ((ya.map ofT).length = ya.length) := by show _ = _; simp
        have Z := Lib.hid zCells_one
        generalize xa.map ofT = za at *
        generalize ya.map ofT = zb at *
        have L3 : Hid ((za ++ zb.map (shiftZ ((s.size + 1 : Nat) : Int))).length = xa.length + ya.length) := by show _ = _; rw [List.length_append, List.length_map, L1.out, L2.out]
        have b3 : (za ++ zb.map (shiftZ ((s.size + 1 : Nat) : Int))).length ≤ 1048576 := by rw [L3.out]; omega
        have B3 := Lib.hid b3; clear b3
        go_wp2_with fail
        refine (told_n _ c3 _ d3 w4 L3.out B3.out m3).mono ?_
        rintro e w5 ⟨v5, rfl, own5, b5⟩
        obtain ⟨A5, c5, rfl, m5⟩ := own_msl own5
        have h5 := h4.trans (b5.mono h4.size)
        have m1b := m1.below b5
        have m2b := m2'.below b5
        clear own5 m1 m2' m3 h4 b5
        go_wp2_with fail
        refine (told_n za c1 _ d1 w5 L1.out (by rw [L1.out]; omega) m1b).mono ?_
        rintro e w6 ⟨v6, rfl, own6, b6⟩
        have m2c := m2b.below b6
        clear m1b m2b
        go_wp2_with fail
        refine (moved_n zb c2 _ d2 _ w6 L2.out (by rw [L2.out]; omega) m2c (by omega) (by omega) P2.out).mono ?_
        rintro e w7 ⟨v7, rfl, own7, b7⟩
        have own6b := own_below own6 b7
        have hl7 : zb.length = (zb.map (shiftZ ((s.size : Int) + 1))).length := by simp
        rw [hl7] at own7
        obtain ⟨A7, c7, rfl, m7⟩ := own_msl own7
        have hr7 := Reads.of_own own7
        rw [← hl7] at hr7 ⊢
        clear hl7
        have hb7 := b6.trans (b7.mono b6.size)
        have LL : Hid (za.length + zb.length = (za ++ zb.map (shiftZ ((s.size : Int) + 1))).length) := by show _ = _; rw [List.length_append, List.length_map]
        have hz1 : za.length ≤ 20000 := by rw [L1.out]; omega
        have hz2 : zb.length ≤ 20000 := by rw [L2.out]; omega
        go_wp2_with (first
          | (at_builtin
             refine wpList_append_wanted _ ?_ _ _ 32 rfl w5.heap.size 28 i0 (.agg #[.int .u8 0, .int .i64 0, .int .i64 0, .int .i64 0, .string ⟨#[]⟩]) 5 48 HI.out.2.2.2.2 HI.out.1 HI.out.2.1 HI.out.2.2.1 HI.out.2.2.2.1 rfl (by decide) _ _ _ rfl own6b _ _ _ _ _ rfl hr7 (zCells_one _) ?_ ?_ ?_ ?_
             · rfl
             · unfold maxLen; omega
             · omega
             · exact hb7.size
             intro v8 w8 own8 hg8 _
             have own8' : w8.ownsRow w5.heap.size 28 5 v8 (za ++ zb.map (shiftZ ((s.size : Int) + 1))).length (cellsZ (za ++ zb.map (shiftZ ((s.size : Int) + 1)))) := by
               rw [cellsZ_append, ← LL.out]; exact own8
             obtain ⟨A8, c8, rfl, m8⟩ := own_msl own8'
             have b8 : Below w5.heap.size w5 w8 := Below.grown hb7 hg8 hb7.size (fun j hj => (own6b.lt _ hj).1)
             have m5b := m5.below b8
             have H8 := Lib.hid (And.intro (h5.trans (b8.mono h5.size)) (And.intro m5b m8))
             clear own8 own8' hg8 m8 m5 m5b b8 own6b own7 own6 hr7 m7 b6 b7 hb7 h5 m2c))
        refine (same_n (za ++ zb.map (shiftZ ((s.size : Int) + 1))) A5 A8 _ _ c5 c8 w8 (by simp) (by simp) B3.out H8.out.2.1 H8.out.2.2).mono ?_
        rintro e w9 ⟨rfl, b9⟩
        go_wp2_with fail
        go_ret
        exact ⟨rfl, H8.out.1.trans (b9.mono H8.out.1.size)⟩
      · have e3 : behind (xa, 0, 0) (shiftA (s.size + 1) (ya, yp, ye)) = ([], yp + (s.size + 1), ye) := by
          unfold behind shiftA prep
          rw [if_neg hy, if_pos rfl, if_neg hy]
        have A4 := A3
        rw [e3] at A4
        clear A3 e3 p2 n1 n2 o1 o2
        have hye : ((ye : Int) != 0) = true := bne_iff_ne.2 (by omega)
        have hpl : ((yp : Int) + ((s.size : Int) + 1) == (s.size : Int) + 1 + (yp : Int)) = true := beq_iff_eq.2 (by omega)
        go_enter Tryd.func7, Tryd.ntmps7
        go_wp2_with fail
        refine (awake_any _ hv).mono ?_
        rintro e w1 ⟨rfl, b1⟩
        go_wp2_with fail
        refine (A1.out _ (hv.step b1)).mono ?_
        rintro e w2 ⟨c1, d1, rfl, m1, b2⟩
        have h2 := b1.trans (b2.mono b1.size)
        clear b1 b2
        go_wp2_with fail
        refine (A2.out _ (hv.step h2)).mono ?_
        rintro e w3 ⟨c2, d2, rfl, m2, b3⟩
        have h3 := h2.trans (b3.mono h2.size)
        have m1' := m1.below b3
        clear h2 m1
        go_wp2_with fail
        refine (A4.out _ (hv.step h3)).mono ?_
        rintro e w4 ⟨c3, d3, rfl, m3, b4⟩
        have h4 := h3.trans (b4.mono h3.size)
        have m1 := m1'.below b4
        have m2' := m2.below b4
        clear h3 b3 b4 m1' m2
        go_wp2_with fail
        go_ret
        exact ⟨rfl, h4⟩
    · have e3 : behind (xa, xp, xe) (shiftA (s.size + 1) (ya, yp, ye)) = ([], xp, xe) := by
        unfold behind
        rw [if_neg hx]
      have A4 := A3
      rw [e3] at A4
      clear A3 e3 p2 n1 n2 o1 o2
      have hxe : ((xe : Int) != 0) = true := bne_iff_ne.2 (by omega)
      go_enter Tryd.func7, Tryd.ntmps7
      go_wp2_with fail
      refine (awake_any _ hv).mono ?_
      rintro e w1 ⟨rfl, b1⟩
      go_wp2_with fail
      refine (A1.out _ (hv.step b1)).mono ?_
      rintro e w2 ⟨c1, d1, rfl, m1, b2⟩
      have h2 := b1.trans (b2.mono b1.size)
      clear b1 b2
      go_wp2_with fail
      refine (A2.out _ (hv.step h2)).mono ?_
      rintro e w3 ⟨c2, d2, rfl, m2, b3⟩
      have h3 := h2.trans (b3.mono h2.size)
      have m1' := m1.below b3
      clear h2 m1
      go_wp2_with fail
      refine (A4.out _ (hv.step h3)).mono ?_
      rintro e w4 ⟨c3, d3, rfl, m3, b4⟩
      have h4 := h3.trans (b4.mono h3.size)
      have m1 := m1'.below b4
      have m2' := m2.below b4
      clear h3 b3 b4 m1' m2
      go_wp2_with fail
      go_ret
      exact ⟨rfl, h4⟩
end Go.Proofs.YtckmhbgpaiocbaaDoor
