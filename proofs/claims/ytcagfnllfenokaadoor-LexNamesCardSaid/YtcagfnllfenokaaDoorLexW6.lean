/- The walk of lex.Join. -/
import Derived.Test.YtcagfnllfenokaaDoorBld
import Derived.Test.YtcagfnllfenokaaDoorLexW5
import Derived.Test.YtcagfnllfenokaaDoorLexJ
import Derived.Lib.OthersKept
namespace Go.Proofs.YtcagfnllfenokaaDoor
open Go.RowKit

theorem bldAt_below {T e : TypeId} {B b : Nat} {p : Value} {xs : List Value} {W W' : World} (h : Lib.BuilderAtF T e B b p xs W) (hb : Below W.heap.size W W') : Lib.BuilderAtF T e B b p xs W' := by
  have hlt := h.lt
  obtain ⟨hB, v, hv, hown, hne⟩ := h
  exact ⟨hB, v, (hb.block b hlt).trans hv, hown.kept (row := none) ⟨hb.os, hb.tape, hb.output, hb.size, fun k hk _ => hb.block k hk⟩ (Classical.em _), hne⟩
theorem bld_below {T e : TypeId} {B b : Nat} {xs : List Value} {W W' : World} (h : Lib.IsBuilderF T e B b xs W) (hb : Below W.heap.size W W') : Lib.IsBuilderF T e B b xs W' :=
  h.elim (fun x => .inl (bldAt_below x hb)) (fun x => .inr (bldAt_below x hb))

/-- Marks stand in memory. -/
structure MarksAt (w : World) (g o : Nat) (ms : List MarkZ) : Prop where
  lt : ms ≠ [] → g < w.heap.size
  cells : ∀ j u, (cellsZ ms)[j]? = some u → w.cell? ⟨g, o + j, none⟩ = some u
theorem MarksAt.below {w w' : World} {g o B : Nat} {ms : List MarkZ} (h : MarksAt w g o ms) (hb : Below B w w') (hB : w.heap.size ≤ B) : MarksAt w' g o ms :=
  ⟨fun hn => Nat.lt_of_lt_of_le (h.lt hn) hb.size, fun j u hj => by
    have hne : ms ≠ [] := by intro e; rw [e] at hj; simp [cellsZ] at hj
    rw [hb.cell (p := ⟨g, o + j, none⟩) (by have := h.lt hne; show g < B; omega)]
    exact h.cells j u hj⟩
theorem MarksAt.five {w : World} {g o k : Nat} {ms : List MarkZ} {m : MarkZ} (h : MarksAt w g o ms) (hm : ms[k]? = some m) :
    w.cell? ⟨g, o + k * 5, none⟩ = some (.int .u8 m.1) ∧ w.cell? ⟨g, o + k * 5 + 1, none⟩ = some (.int .i64 m.2.1) ∧ w.cell? ⟨g, o + k * 5 + 2, none⟩ = some (.int .i64 m.2.2.1) ∧ w.cell? ⟨g, o + k * 5 + 3, none⟩ = some (.int .i64 m.2.2.2.1) ∧ w.cell? ⟨g, o + k * 5 + 4, none⟩ = some (.string (bs m.2.2.2.2)) :=
  ⟨h.cells (k * 5 + 0) _ (cellsZ_at ms k 0 m hm (by decide)), h.cells (k * 5 + 1) _ (cellsZ_at ms k 1 m hm (by decide)), h.cells (k * 5 + 2) _ (cellsZ_at ms k 2 m hm (by decide)), h.cells (k * 5 + 3) _ (cellsZ_at ms k 3 m hm (by decide)), h.cells (k * 5 + 4) _ (cellsZ_at ms k 4 m hm (by decide))⟩

/-- What Show and Join ask of a mark. -/
structure MarkOk (m : MarkZ) : Prop where
  lo : -9223372036854775808 ≤ m.2.2.2.1
  hi : m.2.2.2.1 ≤ 9223372036854775807
  len : m.2.2.2.2.length ≤ 1048576

set_option maxRecDepth 100000 in
set_option maxHeartbeats 1000000 in
theorem join_any (ms : List MarkZ) (g o c : Nat) (w : World) (hn : ms.length ≤ 1048576) (hat : MarksAt w g o ms) (hok : ∀ m ∈ ms, MarkOk m) (hv : Env w) :
    Calls Tryd.prog 7 #[.slice (some ⟨g, o, none⟩) ms.length c] w fun e w' => e = .returned (showVal (lexJoin ms)) ∧ Below w.heap.size w w' := by
  obtain ⟨R, hR⟩ : ∃ R, R = lexJoin ms := ⟨_, rfl⟩
  rw [← hR]
  have hall : joinGo 0 [] (ms.drop 0) = R := hR.symm
  have HR := Lib.hid hall; clear hall hR
  have HOK := Lib.hid hok; clear hok
  go_enter Tryd.func7, Tryd.ntmps7
  go_wp2_with fail
  go_loopw [11] (fun i wr => ∃ (k : Nat) (acc : List UInt8), i = .int .i64 k ∧ k ≤ ms.length ∧ acc.length ≤ k * 1048600 ∧ Lib.IsBuilderF 43 5 w.heap.size w.heap.size (Lib.byteCells acc) wr ∧ Below w.heap.size w wr ∧ Hid (joinGo k acc (ms.drop k) = R)) (fun i _ => ms.length - (intOf i).toNat)
  case atStart =>
    refine ⟨0, [], rfl, Nat.zero_le _, Nat.zero_le _, ?_, (Below.refl _ _).alloc (Nat.le_refl _) _, HR.out⟩
    exact .inl ⟨Nat.le_refl _, .slice none 0 0, heap_alloc_new w _, ⟨by simp [Lib.byteCells], .inl ⟨rfl, rfl⟩⟩, by simp [Value.ownBlock]⟩
  case round =>
    obtain ⟨k, acc, rfl, hk, hacc, hbld, hbw, HS⟩ := hrel
    by_cases hlt : k < ms.length
    · obtain ⟨m, hm⟩ : ∃ m, ms[k]? = some m := ⟨ms[k], List.getElem?_eq_getElem hlt⟩
      have hat1 := hat.below hbw (Nat.le_refl _)
      obtain ⟨c0, c1, c2, c3, c4⟩ := hat1.five hm
      have hmem : m ∈ ms := List.mem_of_getElem? hm
      have hmo := HOK.out m hmem
      have hdrop : ms.drop k = m :: ms.drop (k + 1) := by
        rw [List.drop_eq_getElem_cons hlt]
        rw [List.getElem?_eq_getElem hlt] at hm
        rw [Option.some.inj hm]
      have hstep : joinGo k acc (ms.drop k) = if (markShow m).2 ≠ 0 then ([], (markShow m).2) else joinGo (k + 1) ((if 0 < k then acc ++ [32] else acc) ++ (markShow m).1) (ms.drop (k + 1)) := by rw [hdrop, joinGo]
      rw [HS.out] at hstep
      have hsl := show_len m hmo.lo hmo.hi
      obtain ⟨kk, a, e, n, l⟩ := m
      simp only at c0 c1 c2 c3 c4
      have hSh : ∀ W, Env W → Calls Tryd.prog 8 #[.agg #[.int .u8 kk, .int .i64 a, .int .i64 e, .int .i64 n, .string (bs l)]] W fun e' w' => e' = .returned (showVal (markShow (kk, a, e, n, l))) ∧ Below W.heap.size W w' :=
        fun W hW => show_any kk a e n l W hmo.len hmo.lo hmo.hi hW
      have hll : l.length ≤ 1048576 := hmo.len
      clear hmo hdrop hmem HS hm
      generalize markShow (kk, a, e, n, l) = x at *
      obtain ⟨sx, er⟩ := x
      have HSh : Hid (∀ W, Env W → Calls Tryd.prog 8 #[.agg #[.int .u8 kk, .int .i64 a, .int .i64 e, .int .i64 n, .string (bs l)]] W fun e' w' => e' = .returned (.tuple #[.string (bs sx), .int .i64 er]) ∧ Below W.heap.size W w') := hSh
      clear hSh
      simp only at hstep hsl
      by_cases her : er = 0
      · subst her
        rw [if_neg (by simp)] at hstep
        have HST := Lib.hid hstep; clear hstep
        by_cases hk0 : k = 0
        · subst hk0
          simp only [Nat.zero_mul, Nat.add_zero] at c0 c1 c2 c3 c4
          go_wp2_with fail
          refine (HSh.out _ ((hv.step hbw).alloc _)).mono ?_
          rintro e' w1 ⟨rfl, hb1⟩
          have hb2 := ((Below.refl wr.heap.size wr).alloc (Nat.le_refl _) (.cells #[.int .u8 kk, .int .i64 a, .int .i64 e, .int .i64 n, .string (bs l)] 30)).trans (hb1.mono (by simp))
          have hx := hbw.trans (hb2.mono hbw.size)
          have hbl1 := bld_below hbld hb2
          clear hb1 hb2 hbld
          go_wp2_with fail
          refine (write_any w.heap.size w.heap.size _ (bs sx) _ hbl1 (by rw [bs_size, Lib.byteCells_length]; omega) hx.size).mono ?_
          rintro e' w2 ⟨rfl, hB2, hb2⟩
          have hx2 := hx.trans hb2
          rw [Lib.strCells_eq, bs_list, show Lib.byteCells acc ++ Lib.byteCells sx = Lib.byteCells (acc ++ sx) by simp [Lib.byteCells]] at hB2
          have HB2 := Lib.hid hB2; clear hB2 hbl1 hb2 hx
          have XB := Lib.hid hx2; clear hx2
          go_wp2_with fail
          rw [if_neg (by omega)] at HST
          go_roundw
          case rel => exact ⟨0 + 1, acc ++ sx, by go_num, by omega, by rw [List.length_append]; omega, .inr HB2.out, XB.out, HST.out.symm⟩
          case measure => simp [intOf]; omega
        · have k1 : (0 : Int) < (k : Int) := by omega
          go_wp2_with fail
          refine (HSh.out _ ((hv.step hbw).alloc _)).mono ?_
          rintro e' w1 ⟨rfl, hb1⟩
          have hb2 := ((Below.refl wr.heap.size wr).alloc (Nat.le_refl _) (.cells #[.int .u8 kk, .int .i64 a, .int .i64 e, .int .i64 n, .string (bs l)] 30)).trans (hb1.mono (by simp))
          have hx := hbw.trans (hb2.mono hbw.size)
          have hbl1 := bld_below hbld hb2
          clear hb1 hb2 hbld
          go_wp2_with fail
          refine (write_any w.heap.size w.heap.size _ (bs [32]) _ hbl1 (by rw [bs_size, Lib.byteCells_length, List.length_singleton]; omega) hx.size).mono ?_
          rintro e' w2 ⟨rfl, hB2, hb2⟩
          have hx2 := hx.trans hb2
          rw [Lib.strCells_eq, bs_list, show Lib.byteCells acc ++ Lib.byteCells [32] = Lib.byteCells (acc ++ [32]) by simp [Lib.byteCells]] at hB2
          clear hbl1 hb2 hx
          have hac2 : (acc ++ [32]).length ≤ acc.length + 1 := by rw [List.length_append]; exact Nat.le_refl _
          rw [if_pos (by omega)] at HST
          generalize acc ++ [32] = acc2 at *
          go_wp2_with fail
          refine (write_any w.heap.size w.heap.size _ (bs sx) _ (.inr hB2) (by rw [bs_size, Lib.byteCells_length]; omega) hx2.size).mono ?_
          rintro e' w3 ⟨rfl, hB3, hb3⟩
          have hx3 := hx2.trans hb3
          rw [Lib.strCells_eq, bs_list, show Lib.byteCells acc2 ++ Lib.byteCells sx = Lib.byteCells (acc2 ++ sx) by simp [Lib.byteCells]] at hB3
          have HB3 := Lib.hid hB3; clear hB2 hB3 hb3 hx2
          have XB := Lib.hid hx3; clear hx3
          go_wp2_with fail
          go_roundw
          case rel => exact ⟨k + 1, acc2 ++ sx, by go_num, by omega, by rw [List.length_append]; omega, .inr HB3.out, XB.out, HST.out.symm⟩
          case measure => simp [intOf]; omega
      · rw [if_pos her] at hstep
        have HST := Lib.hid hstep; clear hstep
        have hne : ((er : Int) == 0) = false := beq_eq_false_iff_ne.2 (by omega)
        have hne' : ((er : Int) != 0) = true := bne_iff_ne.2 (by omega)
        go_wp2_with fail
        refine (HSh.out _ ((hv.step hbw).alloc _)).mono ?_
        rintro e' w1 ⟨rfl, hb1⟩
        have hx := hbw.trans (((Below.refl wr.heap.size wr).alloc (Nat.le_refl _) (.cells #[.int .u8 kk, .int .i64 a, .int .i64 e, .int .i64 n, .string (bs l)] 30)).trans (hb1.mono (by simp)) |>.mono hbw.size)
        have HX := Lib.hid hx; clear hx hb1
        go_wp2_with fail
        refine bodyPost_ret (v := .tuple #[.string ⟨#[]⟩, .int .i64 er]) (by simp [results, Tryd.results7, go_sem]) rfl ⟨by rw [HST.out]; rfl, HX.out⟩
    · obtain rfl : k = ms.length := by omega
      have hfin := HS.out
      rw [List.drop_length, joinGo] at hfin
      have HF := Lib.hid hfin; clear hfin HS HR
      by_cases hlong : 65536 < acc.length
      · rw [if_pos hlong] at HF
        have hl1 : (65536 : Int) < ((Lib.byteCells acc).length : Int) := by rw [Lib.byteCells_length]; omega
        go_wp2_with fail
        refine (Tryd.Builder_Len_f w.heap.size w.heap.size _ _ hbld).mono ?_
        rintro e' w1 ⟨rfl, hw⟩
        subst hw
        go_wp2_with fail
        refine bodyPost_ret (v := .tuple #[.string ⟨#[]⟩, .int .i64 5]) (by simp [results, Tryd.results7, go_sem]) rfl ⟨by rw [← HF.out]; rfl, hbw⟩
      · rw [if_neg hlong] at HF
        have hl1 : ¬ (65536 : Int) < ((Lib.byteCells acc).length : Int) := by rw [Lib.byteCells_length]; omega
        go_wp2_with fail
        refine (Tryd.Builder_Len_f w.heap.size w.heap.size _ _ hbld).mono ?_
        rintro e' w1 ⟨rfl, hw⟩
        subst hw
        go_wp2_with fail
        refine (Tryd.Builder_String_any_f w.heap.size w.heap.size acc _ hbld hbw.size).mono ?_
        rintro e' w2 ⟨rfl, _, hb2⟩
        go_wp2_with fail
        refine bodyPost_ret (v := .tuple #[.string (bs acc), .int .i64 0]) (by simp [results, Tryd.results7, go_sem, bs]) rfl ⟨by rw [← HF.out]; rfl, hbw.trans hb2⟩
end Go.Proofs.YtcagfnllfenokaaDoor
