/- The walk of lex.Next. -/
import Derived.Test.YtcagfnllfenokaaDoorLexW2
namespace Go.Proofs.YtcagfnllfenokaaDoor
open Go.RowKit

def markVal (m : Nat × Nat × Nat × Int × List UInt8) : Value := .agg #[.int .u8 m.1, .int .i64 m.2.1, .int .i64 m.2.2.1, .int .i64 m.2.2.2.1, .string (bs m.2.2.2.2)]
def nextVal (r : NextR) : Value := .tuple #[markVal r.1, .int .i64 r.2.1, .int .i64 r.2.2]

theorem slice_list (s : ByteArray) (a b : Nat) : (s.extract a b).data.toList = (s.data.toList.drop a).take (b - a) := by rw [bs_extract, bs_list]

set_option maxRecDepth 100000 in
set_option maxHeartbeats 1000000 in
theorem next_any (s : ByteArray) (i : Int) (w : World) (hs : s.size ≤ 1048576) (hv : Env w) :
    Calls Tryd.prog 6 #[.string s, .int .i64 i] w fun e w' => e = .returned (nextVal (lexNext s.data.toList i)) ∧ Below w.heap.size w w' := by
  have hlen : s.data.toList.length = s.size := by simp
  have b0 : ∀ o, Below w.heap.size w (w.alloc o) := fun o => (Below.refl w.heap.size w).alloc (Nat.le_refl _) o
  have HB0 := Lib.hid b0; clear b0
  by_cases h1 : i < 0
  · have hfin := lexNext_out s.data.toList i (.inl h1)
    have HE := Lib.hid hfin; clear hfin
    go_enter Tryd.func6, Tryd.ntmps6
    go_wp2_with fail
    refine bodyPost_ret (v := .tuple #[.agg #[.int .u8 0, .int .i64 0, .int .i64 0, .int .i64 0, .string ⟨#[]⟩], .int .i64 0, .int .i64 1]) (by simp [results, Tryd.results6, go_sem]) rfl ⟨by rw [HE.out]; rfl, HB0.out _⟩
  by_cases h2 : (s.size : Int) < i
  · have hfin := lexNext_out s.data.toList i (.inr (by rw [hlen]; exact h2))
    have HE := Lib.hid hfin; clear hfin
    go_enter Tryd.func6, Tryd.ntmps6
    go_wp2_with fail
    refine bodyPost_ret (v := .tuple #[.agg #[.int .u8 0, .int .i64 0, .int .i64 0, .int .i64 0, .string ⟨#[]⟩], .int .i64 0, .int .i64 1]) (by simp [results, Tryd.results6, go_sem]) rfl ⟨by rw [HE.out]; rfl, HB0.out _⟩
  obtain ⟨a, rfl⟩ : ∃ a : Nat, i = a := ⟨i.toNat, by omega⟩
  have ha : a ≤ s.size := by omega
  rw [lexNext_in _ _ (by rw [hlen]; exact ha)]
  have hT := fun W => trim_any (s.extract a s.size) W
  rw [drop_list, drop_size _ _ ha] at hT
  have hsk := skipN_le (s.data.toList.drop a)
  rw [List.length_drop, hlen] at hsk
  have HT := Lib.hid hT; clear hT
  have a1 : (a : Int) ≤ (s.size : Int) := by omega
  have a2 : (0 : Int) ≤ (a : Int) := by omega
  rcases Nat.lt_or_eq_of_le hsk with hlt | heq
  · have hfin := fromRest_run a (s.data.toList.drop a) (by rw [List.length_drop, hlen]; exact hlt)
    rw [List.drop_drop] at hfin
    have HE := Lib.hid hfin; clear hfin
    generalize hk : skipN (s.data.toList.drop a) = k at *
    obtain ⟨b, hb⟩ : ∃ b, b = a + k := ⟨_, rfl⟩
    rw [← hb] at HE
    have hbs : b < s.size := by omega
    have b1 : (b : Int) < (s.size : Int) := by omega
    have b2 : (0 : Int) ≤ (b : Int) := by omega
    have hN := fun W => end_any s b W hbs hs
    have hle := runLen_le (s.data.toList.drop b)
    rw [List.length_drop, hlen] at hle
    have hpos : 0 < runLen (s.data.toList.drop b) := by
      cases hd : s.data.toList.drop b with
      | nil => have := congrArg List.length hd; simp at this; omega
      | cons x r => exact runLen_pos x r
    generalize hm : runLen (s.data.toList.drop b) = m at *
    obtain ⟨t, ht⟩ : ∃ t, t = b + m := ⟨_, rfl⟩
    rw [← ht] at hN
    have t1 : (t : Int) ≤ (s.size : Int) := by omega
    have t2 : (b : Int) ≤ (t : Int) := by omega
    have t3 : (0 : Int) ≤ (t : Int) := by omega
    have hM := fun W => mark_any (s.extract b t) W (by rw [ByteArray.size_extract]; omega) (by rw [ByteArray.size_extract]; omega)
    rw [slice_list, show t - b = m by omega] at hM
    obtain ⟨T, hT, hTz⟩ : ∃ T : ByteArray, (∀ W, Calls Tryd.prog 9 #[.string (s.extract a s.size), .string ⟨#[32, 10]⟩] W fun e w' => e = .returned (.string T) ∧ Below W.heap.size W w') ∧ T.size = s.size - b :=
      ⟨_, HT.out, by rw [ByteArray.size_extract, ByteArray.size_extract]; omega⟩
    have z1 : (s.size : Int) - (T.size : Int) = (b : Int) := by omega
    have z2 : IntKind.i64.wrap ((s.size : Int) - (T.size : Int)) = (b : Int) := by rw [z1, IntKind.wrap_i64] <;> omega
    have z3 : ((b : Int) == (s.size : Int)) = false := beq_eq_false_iff_ne.2 (by omega)
    clear HT hTz
    have HT := Lib.hid hT; clear hT
    have HN := Lib.hid hN; clear hN
    have HM := Lib.hid hM; clear hM
    have HE' : fromRest a (s.data.toList.drop a) = ofGot b m (lexRun ((s.data.toList.drop b).take m)) := by rw [HE.out, fromRun, hm]
    clear HE
    generalize lexRun ((s.data.toList.drop b).take m) = g at *
    obtain ⟨⟨kk, n, l⟩, er⟩ := g
    have hfe : Hid (fromRest a (s.data.toList.drop a) = if er = 0 then ((kk, b, t, n, l), 0, 0) else (noMark, b, er)) := by
      show _ = _
      rw [HE', ht, ofGot]
    clear HE'
    have HM' : Hid (∀ W, Env W → Calls Tryd.prog 11 #[.string (s.extract b t)] W fun e w' => e = .returned (.tuple #[.agg #[.int .u8 kk, .int .i64 0, .int .i64 0, .int .i64 n, .string (bs l)], .int .i64 er]) ∧ Below W.heap.size W w') := HM.out
    clear HM
    have HM := HM'; clear HM'
    have hb' := Lib.hid hb; clear hb
    have ht' := Lib.hid ht; clear ht
    by_cases her : er = 0
    · subst her
      rw [if_pos rfl] at hfe
      go_enter Tryd.func6, Tryd.ntmps6
      go_wp2_with fail
      refine (HT.out _).mono ?_
      rintro e w1 ⟨rfl, hb1⟩
      go_wp2_with fail
      refine (HN.out _).mono ?_
      rintro e w2 ⟨rfl, hb2⟩
      go_wp2_with fail
      have hx1 := hb1.trans (hb2.mono hb1.size)
      refine (HM.out _ ((hv.alloc _).step hx1)).mono ?_
      rintro e w3 ⟨rfl, hb3⟩
      have hx := hx1.trans (hb3.mono hx1.size)
      clear hb1 hb2 hb3 hx1
      have hB := (Blk.new w 30 #[.int .u8 0, .int .i64 0, .int .i64 0, .int .i64 0, .string ⟨#[]⟩]).below hx (by simp)
      have o := (HB0.out (.cells #[.int .u8 0, .int .i64 0, .int .i64 0, .int .i64 0, .string ⟨#[]⟩] 30)).trans (hx.mono (by simp))
      clear hx
      have HO := Lib.hid o; clear o
      obtain ⟨⟨c0, c1, c2, c3, c4⟩, f0, f1, f2, f3, f4⟩ := hB.five
      have hB2 := hB.set5 (.int .u8 kk) (.int .i64 0) (.int .i64 0) (.int .i64 n) (.string (bs l))
      obtain ⟨⟨q0, q1, q2, q3, q4⟩, g0, g1, g2, g3, g4⟩ := hB2.five
      have hB3 := (show Blk _ _ _ #[.int .u8 kk, .int .i64 b, .int .i64 t, .int .i64 n, .string (bs l)] from (hB2.set_ 1 (.int .i64 b)).set_ 2 (.int .i64 t))
      obtain ⟨⟨p0, p1, p2, p3, p4⟩, k0, k1, k2, k3, k4⟩ := hB3.five
      obtain ⟨⟨r0, r1, r2, r3, r4⟩, _⟩ := (hB3.set5 (.int .u8 kk) (.int .i64 b) (.int .i64 t) (.int .i64 n) (.string (bs l))).five
      have HR := Lib.hid (And.intro r0 (And.intro r1 (And.intro r2 (And.intro r3 r4))))
      clear r0 r1 r2 r3 r4
      have HBL := Lib.hid (below_set5 (((below_set5 HO.out (Nat.le_refl _) (.int .u8 kk) (.int .i64 0) (.int .i64 0) (.int .i64 n) (.string (bs l))).setCell (p := ⟨w.heap.size, 1, none⟩) (Nat.le_refl _) (.int .i64 b)).setCell (p := ⟨w.heap.size, 2, none⟩) (Nat.le_refl _) (.int .i64 t)) (Nat.le_refl _) (.int .u8 kk) (.int .i64 b) (.int .i64 t) (.int .i64 n) (.string (bs l)))
      generalize hg : w.heap.size = g at *
      have HG := Lib.hid hg; clear hg
      go_wp2_with fail
      obtain ⟨r0, r1, r2, r3, r4⟩ := HR.out
      refine bodyPost_ret (v := .tuple #[.agg #[.int .u8 kk, .int .i64 b, .int .i64 t, .int .i64 n, .string (bs l)], .int .i64 0, .int .i64 0]) (by simp [results, Tryd.results6, go_sem, r0, r1, r2, r3, r4]) rfl ⟨by rw [hfe.out]; rfl, ?_⟩
      rw [HG.out]
      exact HBL.out
    · rw [if_neg her] at hfe
      have hne : ((er : Int) == 0) = false := beq_eq_false_iff_ne.2 (by omega)
      have hne' : ((er : Int) != 0) = true := bne_iff_ne.2 (by omega)
      go_enter Tryd.func6, Tryd.ntmps6
      go_wp2_with fail
      refine (HT.out _).mono ?_
      rintro e w1 ⟨rfl, hb1⟩
      go_wp2_with fail
      refine (HN.out _).mono ?_
      rintro e w2 ⟨rfl, hb2⟩
      go_wp2_with fail
      have hx1 := hb1.trans (hb2.mono hb1.size)
      refine (HM.out _ ((hv.alloc _).step hx1)).mono ?_
      rintro e w3 ⟨rfl, hb3⟩
      have hx := hx1.trans (hb3.mono hx1.size)
      clear hb1 hb2 hb3 hx1
      have hB := (Blk.new w 30 #[.int .u8 0, .int .i64 0, .int .i64 0, .int .i64 0, .string ⟨#[]⟩]).below hx (by simp)
      have o := (HB0.out (.cells #[.int .u8 0, .int .i64 0, .int .i64 0, .int .i64 0, .string ⟨#[]⟩] 30)).trans (hx.mono (by simp))
      clear hx
      have HO := Lib.hid o; clear o
      obtain ⟨⟨c0, c1, c2, c3, c4⟩, f0, f1, f2, f3, f4⟩ := hB.five
      have hB2 := hB.set5 (.int .u8 kk) (.int .i64 0) (.int .i64 0) (.int .i64 n) (.string (bs l))
      obtain ⟨⟨q0, q1, q2, q3, q4⟩, g0, g1, g2, g3, g4⟩ := hB2.five
      obtain ⟨⟨r0, r1, r2, r3, r4⟩, _⟩ := (hB2.set5 (.int .u8 0) (.int .i64 0) (.int .i64 0) (.int .i64 0) (.string ⟨#[]⟩)).five
      have HR := Lib.hid (And.intro r0 (And.intro r1 (And.intro r2 (And.intro r3 r4))))
      clear r0 r1 r2 r3 r4
      generalize hg : w.heap.size = g at *
      have HG := Lib.hid hg; clear hg
      go_wp2_with fail
      obtain ⟨r0, r1, r2, r3, r4⟩ := HR.out
      refine bodyPost_ret (v := .tuple #[.agg #[.int .u8 0, .int .i64 0, .int .i64 0, .int .i64 0, .string ⟨#[]⟩], .int .i64 b, .int .i64 er]) (by simp [results, Tryd.results6, go_sem, r0, r1, r2, r3, r4]) rfl ⟨by rw [hfe.out]; rfl, ?_⟩
      rw [HG.out]
      exact below_set5 (below_set5 HO.out (Nat.le_refl _) _ _ _ _ _) (Nat.le_refl _) _ _ _ _ _
  · have hfin := fromRest_end a (s.data.toList.drop a) (by rw [heq, List.length_drop, hlen])
    rw [List.length_drop, hlen, show a + (s.size - a) = s.size by omega] at hfin
    have HE := Lib.hid hfin; clear hfin
    generalize skipN (s.data.toList.drop a) = k at *
    subst heq
    go_enter Tryd.func6, Tryd.ntmps6
    go_wp2_with fail
    refine (HT.out _).mono ?_
    rintro e w' ⟨rfl, hb⟩
    have hB := (Blk.new w 30 #[.int .u8 0, .int .i64 0, .int .i64 0, .int .i64 0, .string ⟨#[]⟩]).below hb (by simp)
    have o := (HB0.out (.cells #[.int .u8 0, .int .i64 0, .int .i64 0, .int .i64 0, .string ⟨#[]⟩] 30)).trans (hb.mono (by simp))
    clear hb
    have HO := Lib.hid o; clear o
    obtain ⟨⟨c0, c1, c2, c3, c4⟩, f0, f1, f2, f3, f4⟩ := hB.five
    obtain ⟨⟨q0, q1, q2, q3, q4⟩, _⟩ := (hB.set5 (.int .u8 10) (.int .i64 s.size) (.int .i64 s.size) (.int .i64 0) (.string ⟨#[]⟩)).five
    have HQ := Lib.hid (And.intro q0 (And.intro q1 (And.intro q2 (And.intro q3 q4))))
    clear q0 q1 q2 q3 q4
    generalize hg : w.heap.size = g at *
    have HG := Lib.hid hg; clear hg
    go_wp2_with fail
    obtain ⟨q0, q1, q2, q3, q4⟩ := HQ.out
    refine bodyPost_ret (v := .tuple #[.agg #[.int .u8 10, .int .i64 s.size, .int .i64 s.size, .int .i64 0, .string ⟨#[]⟩], .int .i64 0, .int .i64 0]) (by simp [results, Tryd.results6, go_sem, q0, q1, q2, q3, q4]) rfl ⟨by rw [HE.out]; rfl, ?_⟩
    rw [HG.out]
    exact below_set5 HO.out (Nat.le_refl _) _ _ _ _ _
end Go.Proofs.YtcagfnllfenokaaDoor
