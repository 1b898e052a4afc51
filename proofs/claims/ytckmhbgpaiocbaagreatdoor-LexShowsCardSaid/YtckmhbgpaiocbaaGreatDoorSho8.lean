/- The walk of the reference's Join. -/
import Derived.Test.YtckmhbgpaiocbaaGreatDoorSho7
import Derived.Test.YtckmhbgpaiocbaaGreatDoorToldW
import Derived.Lib.AppendStr
namespace Go.Proofs.YtckmhbgpaiocbaaGreatDoor
open Go.RowKit

/-- 'string(b)' of a slice of no byte. -/
theorem conv_none {P : Program} (w : World) (src e dst : TypeId) (hs : P.underlying src = some (.slice e)) (he : P.underlying e = some (.int .u8)) (hd : P.underlying dst = some .string) (p : Option Addr) (c : Nat) :
    (convert src dst (.slice p 0 c)).run P w = .ok (.string (bs [])) w := by
  rw [run_convert_bytes_string w src dst e _ 0 c hs he hd]
  cases p <;> simp [Conv.bytesToString, loadCells]
  all_goals rfl
theorem bytes_own {w : World} {b : Nat} {T : TypeId} {g : Nat} {acc : List UInt8} {n c : Nat} (h : w.ownsRow b T 1 (.slice (some ⟨g, 0, none⟩) n c) acc.length (Lib.byteCells acc)) : Lib.Bytes w g 0 (bs acc) := by
  intro i hi
  rw [bs_size] at hi
  have h1 := h.cells (g := g) rfl i (.int .u8 (acc[i].toNat : Nat)) (by unfold Lib.byteCells; rw [List.getElem?_map, List.getElem?_eq_getElem hi]; rfl)
  have h2 : (bs acc)[i]'(by rw [bs_size]; exact hi) = acc[i] := rfl
  rw [h2]
  by_cases h0 : i = 0
  · subst h0; simpa [Addr.add] using h1
  · simpa [Addr.add, h0] using h1
/-- What Show and Join ask of a mark. -/
structure RMark (m : MarkZ) : Prop where
  lo : -9223372036854775808 ≤ m.2.2.2.1
  hi : m.2.2.2.1 ≤ 9223372036854775807
  len : m.2.2.2.2.length < 20000

set_option maxRecDepth 100000 in
set_option maxHeartbeats 4000000 in
theorem rjoin_any (ms : List MarkZ) (A : Option Addr) (c : Nat) (w : World) (hn : ms.length ≤ 2000) (hA : Msl w A ms) (hok : ∀ m ∈ ms, RMark m) :
    Calls Tryz.prog 10 #[.slice A ms.length c] w fun e w' => e = .returned (showVal (lexJoin ms)) ∧ Below w.heap.size w w' := by
  obtain ⟨R, hR⟩ : ∃ R, R = lexJoin ms := ⟨_, rfl⟩
  rw [← hR]
  have hall : joinGo 0 [] (ms.drop 0) = R := hR.symm
  have HR := Lib.hid hall; clear hall hR
  have HOK := Lib.hid hok; clear hok
  obtain ⟨i0, hi, hz0, hz1, hz2⟩ := info_parts (P := Tryz.prog) (e := 5) (z := .int .u8 0) (size := 1) (bytes := 1) (by kernel_rfl)
  have HU : Tryz.prog.underlying 55 = some (.slice 5) := by kernel_rfl
  have HUS : Tryz.prog.underlying 9 = some .string := by kernel_rfl
  go_enter Tryz.func10, Tryz.ntmps10
  go_wp2_with fail
  go_loopw [4, 5] (fun o i wr => ∃ (k : Nat) (acc : List UInt8), i = .int .i64 k ∧ k ≤ ms.length ∧ acc.length ≤ k * 20100 ∧ wr.ownsRow w.heap.size 5 1 o acc.length (Lib.byteCells acc) ∧ Below w.heap.size w wr ∧ Hid (joinGo k acc (ms.drop k) = R)) (fun _ i _ => ms.length - (intOf i).toNat)
  case atStart => exact ⟨0, [], rfl, Nat.zero_le _, Nat.zero_le _, World.ownsRow_nil _ _ _ _, Below.refl _ _, HR.out⟩
  case round =>
    obtain ⟨k, acc, rfl, hk, hacc, hown, hbw, HS⟩ := hrel
    by_cases hlt : k < ms.length
    · obtain ⟨m, hm⟩ : ∃ m, ms[k]? = some m := ⟨ms[k], List.getElem?_eq_getElem hlt⟩
      obtain ⟨g, o, rfl, hat⟩ := hA (by intro h; rw [h] at hlt; simp at hlt)
      have hat1 := hat.below hbw (Nat.le_refl _)
      obtain ⟨c0, c1, c2, c3, c4⟩ := hat1.five hm
      have hmo := HOK.out m (List.mem_of_getElem? hm)
      have hdrop : ms.drop k = m :: ms.drop (k + 1) := by
        rw [List.drop_eq_getElem_cons hlt]
        rw [List.getElem?_eq_getElem hlt] at hm
        rw [Option.some.inj hm]
      have hstep : joinGo k acc (ms.drop k) = if (markShow m).2 ≠ 0 then ([], (markShow m).2) else joinGo (k + 1) ((if 0 < k then acc ++ [32] else acc) ++ (markShow m).1) (ms.drop (k + 1)) := by rw [hdrop, joinGo]
      rw [HS.out] at hstep
      have hsl := show_len m hmo.lo hmo.hi
      have hml := hmo.len
      obtain ⟨kk, a, e, n, l⟩ := m
      simp only at c0 c1 c2 c3 c4
      have hSh : ∀ W, Calls Tryz.prog 7 #[.agg #[.int .u8 kk, .int .i64 a, .int .i64 e, .int .i64 n, .string (bs l)]] W fun e' w' => e' = .returned (showVal (markShow (kk, a, e, n, l))) ∧ Below W.heap.size W w' :=
        fun W => rshow_any kk a e n l W hmo.len hmo.lo hmo.hi
      clear hmo hdrop HS hm hat hat1 hA
      generalize markShow (kk, a, e, n, l) = x at *
      obtain ⟨sx, er⟩ := x
      have HSh : Hid (∀ W, Calls Tryz.prog 7 #[.agg #[.int .u8 kk, .int .i64 a, .int .i64 e, .int .i64 n, .string (bs l)]] W fun e' w' => e' = .returned (.tuple #[.string (bs sx), .int .i64 er]) ∧ Below W.heap.size W w') := hSh
      clear hSh
      simp only at hstep hsl hml
      have hsx : sx.length ≤ 20050 := by omega
      have j0 : (0 : Int) ≤ (k : Int) := by omega
      have j1 : (k : Int) < (ms.length : Int) := by omega
      by_cases her : er = 0
      · subst her
        rw [if_neg (by simp)] at hstep
        have HST := Lib.hid hstep; clear hstep
        by_cases hk0 : k = 0
        · subst hk0
          simp only [Nat.zero_mul, Nat.add_zero] at c0 c1 c2 c3 c4
          rw [if_neg (by omega)] at HST
          go_wp2_with fail
          refine (HSh.out _).mono ?_
          rintro e' w1 ⟨rfl, hb1⟩
          have hown1 := own_below hown hb1
          have hx := hbw.trans (hb1.mono hbw.size)
          clear hb1 hown hbw
          go_wp2_with (first
            | (at_builtin; refine Lib.wpList_append_own_string _ rfl _ _ 55 9 rfl w.heap.size 5 i0 HU HUS hi hz0 hz1 hz2 _ _ _ rfl hown1 (bs sx) rfl ?_ ?_ ?_ ?_
               · unfold maxLen; rw [bs_size]; omega
               · rw [bs_size]; omega
               · exact hx.size
               intro v' w3 hown' hgrow3 hnil3
               have hb3 := Below.grown hx hgrow3 hx.size (fun j hj => (hown1.lt _ hj).1)
               rw [Lib.strCells_eq, bs_list, ← Lib.byteCells_append, bs_size, ← List.length_append] at hown'
               have XX := Lib.hid (And.intro hown' hb3)
               clear hown' hb3 hgrow3 hnil3 hown1 hx))
          go_roundw
          case rel => exact ⟨0 + 1, acc ++ sx, by go_num, by omega, by rw [List.length_append]; omega, XX.out.1, XX.out.2, HST.out.symm⟩
          case measure => simp [intOf] <;> omega
        · have k1 : (0 : Int) < (k : Int) := by omega
          rw [if_pos (by omega)] at HST
          go_wp2_with fail
          refine (HSh.out _).mono ?_
          rintro e' w1 ⟨rfl, hb1⟩
          have hown1 := own_below hown hb1
          have hx := hbw.trans (hb1.mono hbw.size)
          clear hb1 hown hbw
          go_wp2_with (first
            | (at_builtin; refine Lib.wpList_append_own_string _ rfl _ _ 55 9 rfl w.heap.size 5 i0 HU HUS hi hz0 hz1 hz2 _ _ _ rfl hown2 (bs sx) rfl ?_ ?_ ?_ ?_
               · unfold maxLen; rw [bs_size]; omega
               · rw [bs_size]; omega
               · exact hx2.size
               intro v' w3 hown' hgrow3 hnil3
               have hb3 := Below.grown hx2 hgrow3 hx2.size (fun j hj => (hown2.lt _ hj).1)
               rw [Lib.strCells_eq, bs_list, ← Lib.byteCells_append, bs_size, ← List.length_append] at hown'
               have XX := Lib.hid (And.intro hown' hb3)
               clear hown' hb3 hgrow3 hnil3 hown2 hx2)
            | (at_builtin; refine wpList_append_own _ rfl _ _ 55 rfl w.heap.size 5 i0 (.int .u8 0) 1 1 HU hi hz0 hz1 hz2 rfl (by decide) _ _ _ rfl (hown1.alloc _) ⟨w1.heap.size, 0, none⟩ 1 1 [.int .u8 32] rfl rfl ?_ ?_ ?_ ?_ ?_ ?_
               · exact one_new _ _ _
               · exact (fun x hx => by simp at hx; subst hx; rfl)
               · unfold maxLen; omega
               · omega
               · have := hx.size; simp at this ⊢; omega
               intro v' w2 hown2 hgrow2 hnil2
               have hal := hown1.alloc (.cells #[.int .u8 32] 5)
               have hx2 := Below.grown (hx.alloc hx.size (.cells #[.int .u8 32] 5)) hgrow2 (Nat.le_trans hx.size (by simp)) (fun j hj => (hal.lt _ hj).1)
               rw [show Lib.byteCells acc ++ [Value.int .u8 32] = Lib.byteCells (acc ++ [32]) from by rw [Lib.byteCells_append]; rfl, show acc.length + 1 = (acc ++ [32]).length from by simp] at hown2
               have hal2 : (acc ++ [32]).length = acc.length + 1 := by simp
               have HA2 := Lib.hid hal2
               have hal3 : (acc ++ [32]).length ≤ acc.length + 1 := by omega
               generalize acc ++ [32] = acc2 at *
               clear hal hgrow2 hnil2 hown1 hx hal2))
          go_roundw
          case rel => exact ⟨k + 1, acc2 ++ sx, by go_num, by omega, by rw [List.length_append]; omega, XX.out.1, XX.out.2, HST.out.symm⟩
          case measure => simp [intOf] <;> omega
      · rw [if_pos her] at hstep
        have HST := Lib.hid hstep; clear hstep
        have hne' : ((er : Int) != 0) = true := bne_iff_ne.2 (by omega)
        go_wp2_with fail
        refine (HSh.out _).mono ?_
        rintro e' w1 ⟨rfl, hb1⟩
        have HX := Lib.hid (hbw.trans (hb1.mono hbw.size)); clear hb1
        go_wp2_with fail
        refine bodyPost_ret (v := .tuple #[.string ⟨#[]⟩, .int .i64 er]) (by simp [results, Tryz.results10, go_sem]) rfl ⟨by rw [HST.out]; rfl, HX.out⟩
    · obtain rfl : k = ms.length := by omega
      have hfin := HS.out
      rw [List.drop_length, joinGo] at hfin
      have HF := Lib.hid hfin; clear hfin HS HR
      obtain ⟨OA, oc, rfl⟩ : ∃ OA oc, u4 = .slice OA acc.length oc := by
        rcases hown.2 with ⟨hv, hz⟩ | ⟨g, cap, cur, hv, _⟩
        · exact ⟨none, 0, by rw [hv, hz]⟩
        · exact ⟨_, cap, hv⟩
      by_cases hlong : 65536 < acc.length
      · rw [if_pos hlong] at HF
        have hl1 : (65536 : Int) < (acc.length : Int) := by omega
        have HB := Lib.hid hbw
        clear hown hbw
        go_wp2_with fail
        refine bodyPost_ret (v := .tuple #[.string ⟨#[]⟩, .int .i64 5]) (by simp [results, Tryz.results10, go_sem]) rfl ⟨by rw [← HF.out]; rfl, HB.out⟩
      · rw [if_neg hlong] at HF
        have hl1 : ¬ (65536 : Int) < (acc.length : Int) := by omega
        have hcv : (convert 55 9 (.slice OA acc.length oc)).run Tryz.prog wr = .ok (.string (bs acc)) wr := by
          by_cases h0 : acc = []
          · subst h0
            exact conv_none wr _ 5 _ HU (by kernel_rfl) HUS _ _
          · have hp : 0 < acc.length := by
              rcases Nat.eq_zero_or_pos acc.length with h | h
              · exact absurd (List.length_eq_zero_iff.1 h) h0
              · exact h
            obtain ⟨g, cap, hv, hg⟩ := hown.form hp
            obtain ⟨rfl, -, rfl⟩ : OA = some ⟨g, 0, none⟩ ∧ acc.length = acc.length ∧ oc = cap := by injection hv with q1 q2 q3; exact ⟨q1, q2, q3⟩
            have := Lib.run_convert_whole (P := Tryz.prog) wr 55 5 9 HU (by kernel_rfl) HUS g 0 (bs acc) (bytes_own hown) oc
            rwa [bs_size] at this
        have HB := Lib.hid hbw
        clear hown hbw
        go_wp2_with fail
        refine bodyPost_ret (v := .tuple #[.string (bs acc), .int .i64 0]) (by simp [results, Tryz.results10, go_sem]) rfl ⟨by rw [← HF.out]; rfl, HB.out⟩
end Go.Proofs.YtckmhbgpaiocbaaGreatDoor
