/- Put together: LexW3, LexW4, RefN. -/
import Derived.Test.YtbhekkkijomglaaGreatDoorIdxZ
import Derived.Test.YtbhekkkijomglaaGreatDoorLexSpecZ
import Derived.Test.YtbhekkkijomglaaGreatDoorBaseZ
import Derived.Test.YtbhekkkijomglaaGreatDoorDigsZ
import Derived.OwnWalk
import Derived.WalkSpells
import Derived.Laws.AppendOwn
import Derived.WalkLawsBesides
namespace Go.Proofs.YtbhekkkijomglaaGreatDoor
/-! The walk of lex.Next. -/
section
open Go.RowKit

def markVal (m : Nat × Nat × Nat × Int × List UInt8) : Value := .agg #[.int .u8 m.1, .int .i64 m.2.1, .int .i64 m.2.2.1, .int .i64 m.2.2.2.1, .string (bs m.2.2.2.2)]
def nextVal (r : NextR) : Value := .tuple #[markVal r.1, .int .i64 r.2.1, .int .i64 r.2.2]

theorem slice_list (s : ByteArray) (a b : Nat) : (s.extract a b).data.toList = (s.data.toList.drop a).take (b - a) := by rw [bs_extract, bs_list]

set_option maxRecDepth 100000 in
set_option maxHeartbeats 1000000 in
theorem next_any (s : ByteArray) (i : Int) (w : World) (hs : s.size ≤ 1048576) (hv : Env w) :
    Calls Tryz.prog 38 #[.string s, .int .i64 i] w fun e w' => e = .returned (nextVal (lexNext s.data.toList i)) ∧ Below w.heap.size w w' := by
  have hlen : s.data.toList.length = s.size := by simp
  have b0 : ∀ o, Below w.heap.size w (w.alloc o) := fun o => (Below.refl w.heap.size w).alloc (Nat.le_refl _) o
  have HB0 := Lib.hid b0; clear b0
  by_cases h1 : i < 0
  · have hfin := lexNext_out s.data.toList i (.inl h1)
    have HE := Lib.hid hfin; clear hfin
    go_enter Tryz.func38, Tryz.ntmps38
    go_wp2_with fail
    refine bodyPost_ret (v := .tuple #[.agg #[.int .u8 0, .int .i64 0, .int .i64 0, .int .i64 0, .string ⟨#[]⟩], .int .i64 0, .int .i64 1]) (by simp [results, Tryz.results38, go_sem]) rfl ⟨by rw [HE.out]; rfl, HB0.out _⟩
  by_cases h2 : (s.size : Int) < i
  · have hfin := lexNext_out s.data.toList i (.inr (by rw [hlen]; exact h2))
    have HE := Lib.hid hfin; clear hfin
    go_enter Tryz.func38, Tryz.ntmps38
    go_wp2_with fail
    refine bodyPost_ret (v := .tuple #[.agg #[.int .u8 0, .int .i64 0, .int .i64 0, .int .i64 0, .string ⟨#[]⟩], .int .i64 0, .int .i64 1]) (by simp [results, Tryz.results38, go_sem]) rfl ⟨by rw [HE.out]; rfl, HB0.out _⟩
  obtain ⟨a, rfl⟩ : ∃ a : Nat, i = a := ⟨i.toNat, by omega⟩
  have ha : a ≤ s.size := by omega
  rw [lexNext_in _ _ (by rw [hlen]; exact ha)]
  have hT := fun W => trim_any (s.extract a s.size) W
  rw [drop_list, drop_size _ _ ha] at hT
  have hsk := skipN_le (s.data.toList.drop a)
  rw [List.length_drop, hlen] at hsk
  have HT := Lib.hid hT; clear hT
  have a1 : (a : Int) ≤ (s.size : Int) := by omega
  have a2 : (0 : Int) ≤ (a : Int) := by omega
  rcases Nat.lt_or_eq_of_le hsk with hlt | heq
  · have hfin := fromRest_run a (s.data.toList.drop a) (by rw [List.length_drop, hlen]; exact hlt)
    rw [List.drop_drop] at hfin
    have HE := Lib.hid hfin; clear hfin
    generalize hk : skipN (s.data.toList.drop a) = k at *
    obtain ⟨b, hb⟩ : ∃ b, b = a + k := ⟨_, rfl⟩
    rw [← hb] at HE
    have hbs : b < s.size := by omega
    have b1 : (b : Int) < (s.size : Int) := by omega
    have b2 : (0 : Int) ≤ (b : Int) := by omega
    have hN := fun W => end_any s b W hbs hs
    have hle := runLen_le (s.data.toList.drop b)
    rw [List.length_drop, hlen] at hle
    have hpos : 0 < runLen (s.data.toList.drop b) := by
      cases hd : s.data.toList.drop b with
      | nil => have := congrArg List.length hd; simp at this; omega
      | cons x r => exact runLen_pos x r
    generalize hm : runLen (s.data.toList.drop b) = m at *
    obtain ⟨t, ht⟩ : ∃ t, t = b + m := ⟨_, rfl⟩
    rw [← ht] at hN
    have t1 : (t : Int) ≤ (s.size : Int) := by omega
    have t2 : (b : Int) ≤ (t : Int) := by omega
    have t3 : (0 : Int) ≤ (t : Int) := by omega
    have hM := fun W => mark_any (s.extract b t) W (by rw [ByteArray.size_extract]; omega) (by rw [ByteArray.size_extract]; omega)
    rw [slice_list, show t - b = m by omega] at hM
    obtain ⟨T, hT, hTz⟩ : ∃ T : ByteArray, (∀ W, Calls Tryz.prog 57 #[.string (s.extract a s.size), .string ⟨#[32, 10]⟩] W fun e w' => e = .returned (.string T) ∧ Below W.heap.size W w') ∧ T.size = s.size - b :=
      ⟨_, HT.out, by rw [ByteArray.size_extract, ByteArray.size_extract]; omega⟩
    have z1 : (s.size : Int) - (T.size : Int) = (b : Int) := by omega
    have z2 : IntKind.i64.wrap ((s.size : Int) - (T.size : Int)) = (b : Int) := by rw [z1, IntKind.wrap_i64] <;> omega
    have z3 : ((b : Int) == (s.size : Int)) = false := beq_eq_false_iff_ne.2 (by omega)
    clear HT hTz
    have HT := Lib.hid hT; clear hT
    have HN := Lib.hid hN; clear hN
    have HM := Lib.hid hM; clear hM
    have HE' : fromRest a (s.data.toList.drop a) = ofGot b m (lexRun ((s.data.toList.drop b).take m)) := by rw [HE.out, fromRun, hm]
    clear HE
    generalize lexRun ((s.data.toList.drop b).take m) = g at *
    obtain ⟨⟨kk, n, l⟩, er⟩ := g
    have hfe : Hid (fromRest a (s.data.toList.drop a) = if er = 0 then ((kk, b, t, n, l), 0, 0) else (noMark, b, er)) := by
      show _ = _
      rw [HE', ht, ofGot]
    clear HE'
    have HM' : Hid (∀ W, Env W → Calls Tryz.prog 59 #[.string (s.extract b t)] W fun e w' => e = .returned (.tuple #[.agg #[.int .u8 kk, .int .i64 0, .int .i64 0, .int .i64 n, .string (bs l)], .int .i64 er]) ∧ Below W.heap.size W w') := HM.out
    clear HM
    have HM := HM'; clear HM'
    have hb' := Lib.hid hb; clear hb
    have ht' := Lib.hid ht; clear ht
    by_cases her : er = 0
    · subst her
      rw [if_pos rfl] at hfe
      go_enter Tryz.func38, Tryz.ntmps38
      go_wp2_with fail
      refine (HT.out _).mono ?_
      rintro e w1 ⟨rfl, hb1⟩
      go_wp2_with fail
      refine (HN.out _).mono ?_
      rintro e w2 ⟨rfl, hb2⟩
      go_wp2_with fail
      have hx1 := hb1.trans (hb2.mono hb1.size)
      refine (HM.out _ ((hv.alloc _).step hx1)).mono ?_
      rintro e w3 ⟨rfl, hb3⟩
      have hx := hx1.trans (hb3.mono hx1.size)
      clear hb1 hb2 hb3 hx1
      have hB := (Blk.new w 54 #[.int .u8 0, .int .i64 0, .int .i64 0, .int .i64 0, .string ⟨#[]⟩]).below hx (by simp)
      have o := (HB0.out (.cells #[.int .u8 0, .int .i64 0, .int .i64 0, .int .i64 0, .string ⟨#[]⟩] 54)).trans (hx.mono (by simp))
      clear hx
      have HO := Lib.hid o; clear o
      obtain ⟨⟨c0, c1, c2, c3, c4⟩, f0, f1, f2, f3, f4⟩ := hB.five
      have hB2 := hB.set5 (.int .u8 kk) (.int .i64 0) (.int .i64 0) (.int .i64 n) (.string (bs l))
      obtain ⟨⟨q0, q1, q2, q3, q4⟩, g0, g1, g2, g3, g4⟩ := hB2.five
      have hB3 := (show Blk _ _ _ #[.int .u8 kk, .int .i64 b, .int .i64 t, .int .i64 n, .string (bs l)] from (hB2.set_ 1 (.int .i64 b)).set_ 2 (.int .i64 t))
      obtain ⟨⟨p0, p1, p2, p3, p4⟩, k0, k1, k2, k3, k4⟩ := hB3.five
      obtain ⟨⟨r0, r1, r2, r3, r4⟩, _⟩ := (hB3.set5 (.int .u8 kk) (.int .i64 b) (.int .i64 t) (.int .i64 n) (.string (bs l))).five
      have HR := Lib.hid (And.intro r0 (And.intro r1 (And.intro r2 (And.intro r3 r4))))
      clear r0 r1 r2 r3 r4
      have HBL := Lib.hid (below_set5 (((below_set5 HO.out (Nat.le_refl _) (.int .u8 kk) (.int .i64 0) (.int .i64 0) (.int .i64 n) (.string (bs l))).setCell (p := ⟨w.heap.size, 1, none⟩) (Nat.le_refl _) (.int .i64 b)).setCell (p := ⟨w.heap.size, 2, none⟩) (Nat.le_refl _) (.int .i64 t)) (Nat.le_refl _) (.int .u8 kk) (.int .i64 b) (.int .i64 t) (.int .i64 n) (.string (bs l)))
      generalize hg : w.heap.size = g at *
      have HG := Lib.hid hg; clear hg
      go_wp2_with fail
      obtain ⟨r0, r1, r2, r3, r4⟩ := HR.out
      refine bodyPost_ret (v := .tuple #[.agg #[.int .u8 kk, .int .i64 b, .int .i64 t, .int .i64 n, .string (bs l)], .int .i64 0, .int .i64 0]) (by simp [results, Tryz.results38, go_sem, r0, r1, r2, r3, r4]) rfl ⟨by rw [hfe.out]; rfl, ?_⟩
      rw [HG.out]
      exact HBL.out
    · rw [if_neg her] at hfe
      have hne : ((er : Int) == 0) = false := beq_eq_false_iff_ne.2 (by omega)
      have hne' : ((er : Int) != 0) = true := bne_iff_ne.2 (by omega)
      go_enter Tryz.func38, Tryz.ntmps38
      go_wp2_with fail
      refine (HT.out _).mono ?_
      rintro e w1 ⟨rfl, hb1⟩
      go_wp2_with fail
      refine (HN.out _).mono ?_
      rintro e w2 ⟨rfl, hb2⟩
      go_wp2_with fail
      have hx1 := hb1.trans (hb2.mono hb1.size)
      refine (HM.out _ ((hv.alloc _).step hx1)).mono ?_
      rintro e w3 ⟨rfl, hb3⟩
      have hx := hx1.trans (hb3.mono hx1.size)
      clear hb1 hb2 hb3 hx1
      have hB := (Blk.new w 54 #[.int .u8 0, .int .i64 0, .int .i64 0, .int .i64 0, .string ⟨#[]⟩]).below hx (by simp)
      have o := (HB0.out (.cells #[.int .u8 0, .int .i64 0, .int .i64 0, .int .i64 0, .string ⟨#[]⟩] 54)).trans (hx.mono (by simp))
      clear hx
      have HO := Lib.hid o; clear o
      obtain ⟨⟨c0, c1, c2, c3, c4⟩, f0, f1, f2, f3, f4⟩ := hB.five
      have hB2 := hB.set5 (.int .u8 kk) (.int .i64 0) (.int .i64 0) (.int .i64 n) (.string (bs l))
      obtain ⟨⟨q0, q1, q2, q3, q4⟩, g0, g1, g2, g3, g4⟩ := hB2.five
      obtain ⟨⟨r0, r1, r2, r3, r4⟩, _⟩ := (hB2.set5 (.int .u8 0) (.int .i64 0) (.int .i64 0) (.int .i64 0) (.string ⟨#[]⟩)).five
      have HR := Lib.hid (And.intro r0 (And.intro r1 (And.intro r2 (And.intro r3 r4))))
      clear r0 r1 r2 r3 r4
      generalize hg : w.heap.size = g at *
      have HG := Lib.hid hg; clear hg
      go_wp2_with fail
      obtain ⟨r0, r1, r2, r3, r4⟩ := HR.out
      refine bodyPost_ret (v := .tuple #[.agg #[.int .u8 0, .int .i64 0, .int .i64 0, .int .i64 0, .string ⟨#[]⟩], .int .i64 b, .int .i64 er]) (by simp [results, Tryz.results38, go_sem, r0, r1, r2, r3, r4]) rfl ⟨by rw [hfe.out]; rfl, ?_⟩
      rw [HG.out]
      exact below_set5 (below_set5 HO.out (Nat.le_refl _) _ _ _ _ _) (Nat.le_refl _) _ _ _ _ _
  · have hfin := fromRest_end a (s.data.toList.drop a) (by rw [heq, List.length_drop, hlen])
    rw [List.length_drop, hlen, show a + (s.size - a) = s.size by omega] at hfin
    have HE := Lib.hid hfin; clear hfin
    generalize skipN (s.data.toList.drop a) = k at *
    subst heq
    go_enter Tryz.func38, Tryz.ntmps38
    go_wp2_with fail
    refine (HT.out _).mono ?_
    rintro e w' ⟨rfl, hb⟩
    have hB := (Blk.new w 54 #[.int .u8 0, .int .i64 0, .int .i64 0, .int .i64 0, .string ⟨#[]⟩]).below hb (by simp)
    have o := (HB0.out (.cells #[.int .u8 0, .int .i64 0, .int .i64 0, .int .i64 0, .string ⟨#[]⟩] 54)).trans (hb.mono (by simp))
    clear hb
    have HO := Lib.hid o; clear o
    obtain ⟨⟨c0, c1, c2, c3, c4⟩, f0, f1, f2, f3, f4⟩ := hB.five
    obtain ⟨⟨q0, q1, q2, q3, q4⟩, _⟩ := (hB.set5 (.int .u8 10) (.int .i64 s.size) (.int .i64 s.size) (.int .i64 0) (.string ⟨#[]⟩)).five
    have HQ := Lib.hid (And.intro q0 (And.intro q1 (And.intro q2 (And.intro q3 q4))))
    clear q0 q1 q2 q3 q4
    generalize hg : w.heap.size = g at *
    have HG := Lib.hid hg; clear hg
    go_wp2_with fail
    obtain ⟨q0, q1, q2, q3, q4⟩ := HQ.out
    refine bodyPost_ret (v := .tuple #[.agg #[.int .u8 10, .int .i64 s.size, .int .i64 s.size, .int .i64 0, .string ⟨#[]⟩], .int .i64 0, .int .i64 0]) (by simp [results, Tryz.results38, go_sem, q0, q1, q2, q3, q4]) rfl ⟨by rw [HE.out]; rfl, ?_⟩
    rw [HG.out]
    exact below_set5 HO.out (Nat.le_refl _) _ _ _ _ _
end

/-! The walk of lex.All. -/
section
open Go.RowKit

theorem cell_five_new (w : World) (a b c d e : Value) (t : TypeId) : ∀ j u, [a, b, c, d, e][j]? = some u → (w.alloc (.cells #[a, b, c, d, e] t)).cell? ((⟨w.heap.size, 0, none⟩ : Addr).add j) = some u := by
  intro j u hj
  match j, hj with
  | 0, hj => simp at hj; subst hj; simp [Addr.add]
  | 1, hj => simp at hj; subst hj; simp [Addr.add]
  | 2, hj => simp at hj; subst hj; simp [Addr.add]
  | 3, hj => simp at hj; subst hj; simp [Addr.add]
  | 4, hj => simp at hj; subst hj; simp [Addr.add]
  | j + 5, hj => simp at hj
theorem cell_five_at (w : World) (o : Obj) (a b c d e : Value) (t : TypeId) : ∀ j u, [a, b, c, d, e][j]? = some u → ((w.alloc o).alloc (.cells #[a, b, c, d, e] t)).cell? ((⟨w.heap.size + 1, 0, none⟩ : Addr).add j) = some u := by
  have h := cell_five_new (w.alloc o) a b c d e t
  have e1 : (w.alloc o).heap.size = w.heap.size + 1 := by simp
  rwa [e1] at h
theorem own_below {B : Nat} {e : TypeId} {k : Nat} {v : Value} {n : Nat} {xs : List Value} {w w' : World} (h : w.ownsRow B e k v n xs) (hb : Below w.heap.size w w') : w'.ownsRow B e k v n xs :=
  h.kept (row := none) ⟨hb.os, hb.tape, hb.output, hb.size, fun j hj _ => hb.block j hj⟩ (by cases hv : v.ownBlock <;> simp)

/-- What All returns. -/
def AllPost (T : TypeId) (x : List MarkT × Nat × Nat) (w : World) (e : Ending) (w' : World) : Prop :=
  ∃ v, e = .returned (.tuple #[v, .int .i64 x.2.1, .int .i64 x.2.2]) ∧ w'.ownsRow w.heap.size T 5 v x.1.length (cellsOf x.1) ∧ Below w.heap.size w w'

set_option maxRecDepth 100000 in
set_option maxHeartbeats 1000000 in
theorem all_any (s : ByteArray) (w : World) (hs : s.size ≤ 65536) (hv : Env w) :
    Calls Tryz.prog 26 #[.string s] w (AllPost 54 (lexAll s.data.toList) w) := by
  have hlen : s.data.toList.length = s.size := by simp
  obtain ⟨i0, hi, hz0, hz1, hz2⟩ := info_parts (P := Tryz.prog) (e := 54) (z := .agg #[.int .u8 0, .int .i64 0, .int .i64 0, .int .i64 0, .string ⟨#[]⟩]) (size := 5) (bytes := 48) (by kernel_rfl)
  have hall : lexAll s.data.toList = allRest (s.size + 1) 0 s.data.toList := by rw [lexAll, if_neg (by omega), hlen]
  rw [hall, ← prep_nil]
  clear hall
  have HP : Hid (∀ e w', AllPost 54 (prep [] (allRest (s.size + 1) 0 s.data.toList)) w e w' = AllPost 54 (prep [] (allRest (s.size + 1) 0 s.data.toList)) w e w') := fun _ _ => rfl
  generalize hR : prep [] (allRest (s.size + 1) 0 s.data.toList) = R at *
  have HR := Lib.hid hR; clear hR HP
  have HL := Lib.hid hlen; clear hlen
  generalize hPO : AllPost 54 R w = PO
  have HPO := Lib.hid hPO; clear hPO
  go_enter Tryz.func26, Tryz.ntmps26
  go_wp2_with fail
  go_loopw [2, 5] (fun v a wr => ∃ (k f : Nat) (ms : List MarkT), a = .int .i64 k ∧ k ≤ s.size ∧ s.size < f + k ∧ ms.length ≤ k ∧ wr.ownsRow w.heap.size 54 5 v ms.length (cellsOf ms) ∧ Below w.heap.size w wr ∧ Hid (prep ms (allRest f k (s.data.toList.drop k)) = R)) (fun _ a _ => s.size - (intOf a).toNat)
  case atStart => exact ⟨0, s.size + 1, [], rfl, Nat.zero_le _, by omega, Nat.le_refl _, World.ownsRow_nil _ _ _ _, Below.refl _ _, HR.out⟩
  case round =>
    obtain ⟨k, f, ms, rfl, hk, hf, hml, hown, hbw, HS⟩ := hrel
    obtain ⟨f, rfl⟩ : ∃ f', f = f' + 1 := ⟨f - 1, by omega⟩
    have hN := next_any s k wr (by omega) (hv.step hbw)
    rw [lexNext_in _ _ (by rw [HL.out]; exact hk)] at hN
    have hends := fromRest_ends k (s.data.toList.drop k)
    rw [List.length_drop, HL.out] at hends
    have p1 := prep_bad ms f k (s.data.toList.drop k)
    have p2 := prep_stop ms f k (s.data.toList.drop k)
    have p3 := prep_more ms f k (s.data.toList.drop k)
    rw [HS.out] at p1 p2 p3
    rw [List.drop_drop] at p3
    clear HS HR
    generalize fromRest k (s.data.toList.drop k) = x at *
    obtain ⟨⟨kk, a, e, n, l⟩, pl, er⟩ := x
    have HN : Hid (Calls Tryz.prog 38 #[.string s, .int .i64 k] wr fun e' w' => e' = .returned (.tuple #[.agg #[.int .u8 kk, .int .i64 a, .int .i64 e, .int .i64 n, .string (bs l)], .int .i64 pl, .int .i64 er]) ∧ Below wr.heap.size wr w') := hN
    clear hN
    simp only at p1 p2 p3 hends
    by_cases her : er = 0
    · subst her
      by_cases hkk : kk = 10
      · subst hkk
        have HRR := Lib.hid (p2 rfl rfl)
        clear p1 p2 p3 hends
        go_wp2_with fail
        refine HN.out.mono ?_
        rintro e' w1 ⟨rfl, hb1⟩
        have hown1 := own_below hown hb1
        have hx := hbw.trans (hb1.mono hbw.size)
        have hB := (Blk.new w1 54 #[.int .u8 10, .int .i64 a, .int .i64 e, .int .i64 n, .string (bs l)])
        obtain ⟨⟨c0, c1, c2, c3, c4⟩, f0, f1, f2, f3, f4⟩ := hB.five
        have hb2 := (Below.refl w1.heap.size w1).alloc (Nat.le_refl _) (.cells #[.int .u8 10, .int .i64 a, .int .i64 e, .int .i64 n, .string (bs l)] 54)
        have hown2 := own_below hown1 hb2
        have hx2 := hx.trans (hb2.mono hx.size)
        have hnb : some w1.heap.size ≠ u2.ownBlock := fun h => by have := (hown1.lt _ h.symm).2; omega
        clear hown hown1 hb1 hb2 hx hbw
        have HX := Lib.hid hx2; clear hx2
        go_wp2_with fail
        refine bodyPost_ret (v := .tuple #[u2, .int .i64 0, .int .i64 0]) (by simp [results, Tryz.results26, go_sem]) rfl ?_
        rw [← HPO.out, HRR.out]
        exact ⟨_, rfl, hown2, HX.out⟩
      · have HRR := Lib.hid (p3 rfl hkk)
        obtain ⟨e1, e2⟩ := hends rfl hkk
        clear p1 p2 p3 hends
        have HU : Tryz.prog.underlying 50 = some (.slice 54) := by kernel_rfl
        have hk10 : ((kk : Int) == 10) = false := beq_eq_false_iff_ne.2 (by omega)
        go_wp2_with fail
        refine HN.out.mono ?_
        rintro e' w1 ⟨rfl, hb1⟩
        have hown1 := own_below hown hb1
        have hx := hbw.trans (hb1.mono hbw.size)
        have hB := (Blk.new w1 54 #[.int .u8 kk, .int .i64 a, .int .i64 e, .int .i64 n, .string (bs l)])
        obtain ⟨⟨c0, c1, c2, c3, c4⟩, f0, f1, f2, f3, f4⟩ := hB.five
        have hb2 := (Below.refl w1.heap.size w1).alloc (Nat.le_refl _) (.cells #[.int .u8 kk, .int .i64 a, .int .i64 e, .int .i64 n, .string (bs l)] 54)
        have hown2 := own_below hown1 hb2
        have hx2 := hx.trans (hb2.mono hx.size)
        have hnb : some w1.heap.size ≠ u2.ownBlock := fun h => by have := (hown1.lt _ h.symm).2; omega
        clear hown hown1 hb1 hb2 hx hbw
        have HX := Lib.hid hx2; clear hx2
        go_wp2_with (first
          | (at_builtin; refine wpList_append_own _ rfl _ _ 50 rfl w.heap.size 54 i0 (.agg #[.int .u8 0, .int .i64 0, .int .i64 0, .int .i64 0, .string ⟨#[]⟩]) 5 48 HU hi hz0 hz1 hz2 rfl (by decide) _ _ _ rfl (hown2.alloc _) ⟨w1.heap.size + 1, 0, none⟩ 1 1 [.int .u8 kk, .int .i64 a, .int .i64 e, .int .i64 n, .string (bs l)] rfl rfl (cell_five_at _ _ _ _ _ _ _ _) (fun x hx => by simp at hx; rcases hx with rfl | rfl | rfl | rfl | rfl <;> rfl) (by unfold maxLen; omega) (by omega) (by have := HX.out.size; simp at this ⊢; omega) ?_; intro v' w3 hown' hgrow3 hnil3
             have hB3 := (hB.alloc (.cells #[.int .u8 kk, .int .i64 a, .int .i64 e, .int .i64 n, .string (bs l)] 54)).grown hgrow3 hnb
             obtain ⟨⟨t0, t1, t2, t3, t4⟩, v0, v1, v2, v3, v4⟩ := hB3.five
             have hbw3 := Below.grown (HX.out.alloc HX.out.size (.cells #[.int .u8 kk, .int .i64 a, .int .i64 e, .int .i64 n, .string (bs l)] 54)) hgrow3 (by have := HX.out.size; simp at this ⊢; omega) (fun j hj => (hown2.lt _ hj).1)
             have X := Lib.hid (And.intro hown' hbw3)
             clear hown' hbw3 hgrow3 hnil3 hB3))
        go_roundw
        case rel => exact ⟨e, f, ms ++ [(kk, a, e, n, l)], rfl, by omega, by omega, by rw [List.length_append, List.length_singleton]; omega, by rw [List.length_append, List.length_singleton, cellsOf_snoc]; exact X.out.1, X.out.2, by show _ = _; rw [HRR.out, show k + (e - k) = e by omega]⟩
        case measure => simp [intOf]; omega
    · have HRR := Lib.hid (p1 her)
      clear p1 p2 p3 hends
      have hne : ((er : Int) == 0) = false := beq_eq_false_iff_ne.2 (by omega)
      have hne' : ((er : Int) != 0) = true := bne_iff_ne.2 (by omega)
      go_wp2_with fail
      refine HN.out.mono ?_
      rintro e' w1 ⟨rfl, hb1⟩
      have hown1 := own_below hown hb1
      have hx := hbw.trans (hb1.mono hbw.size)
      have hB := (Blk.new w1 54 #[.int .u8 kk, .int .i64 a, .int .i64 e, .int .i64 n, .string (bs l)])
      obtain ⟨⟨c0, c1, c2, c3, c4⟩, f0, f1, f2, f3, f4⟩ := hB.five
      have hb2 := (Below.refl w1.heap.size w1).alloc (Nat.le_refl _) (.cells #[.int .u8 kk, .int .i64 a, .int .i64 e, .int .i64 n, .string (bs l)] 54)
      have hown2 := own_below hown1 hb2
      have hx2 := hx.trans (hb2.mono hx.size)
      have hnb : some w1.heap.size ≠ u2.ownBlock := fun h => by have := (hown1.lt _ h.symm).2; omega
      clear hown hown1 hb1 hb2 hx hbw
      have HX := Lib.hid hx2; clear hx2
      go_wp2_with fail
      refine bodyPost_ret (v := .tuple #[.slice none 0 0, .int .i64 pl, .int .i64 er]) (by simp [results, Tryz.results26, go_sem]) rfl ?_
      rw [← HPO.out, HRR.out]
      exact ⟨_, rfl, World.ownsRow_nil _ _ _ _, HX.out⟩
end

/-! The walks of the references' naturals: cut, Join, Digits, Trim, Small. -/
section
open Go.RowKit

def uCells (xs : List Nat) : List Value := xs.map fun (x : Nat) => Value.int .u64 (x : Int)
theorem uCells_append (a b : List Nat) : uCells (a ++ b) = uCells a ++ uCells b := by unfold uCells; exact List.map_append
theorem uCells_length (a : List Nat) : (uCells a).length = a.length := by unfold uCells; exact List.length_map _
/-- A slice's value holds numbers. -/
def Nsl (w : World) (A : Option Addr) (xs : List Nat) : Prop := xs ≠ [] → ∃ g o, A = some ⟨g, o, none⟩ ∧ g < w.heap.size ∧ ∀ (k x : Nat), xs[k]? = some x → w.cell? ⟨g, o + k, none⟩ = some (.int .u64 x)
theorem Nsl.nil (w : World) (A : Option Addr) : Nsl w A [] := fun h => absurd rfl h
theorem Nsl.below {w w' : World} {A : Option Addr} {xs : List Nat} (h : Nsl w A xs) (hb : Below w.heap.size w w') : Nsl w' A xs := fun hn => by
  obtain ⟨g, o, e, hg, hc⟩ := h hn
  exact ⟨g, o, e, Nat.lt_of_lt_of_le hg hb.size, fun k x hx => by rw [hb.cell (p := ⟨g, o + k, none⟩) hg]; exact hc k x hx⟩
theorem Nsl.take {w : World} {A : Option Addr} {xs : List Nat} (h : Nsl w A xs) (n : Nat) : Nsl w A (xs.take n) := fun hn => by
  have hne : xs ≠ [] := by intro e; rw [e] at hn; simp at hn
  obtain ⟨g, o, e, hg, hc⟩ := h hne
  refine ⟨g, o, e, hg, fun k x hx => hc k x ?_⟩
  rw [List.getElem?_take] at hx
  split at hx
  · exact hx
  · cases hx
theorem own_nsl {w : World} {B : Nat} {T : TypeId} {v : Value} {xs : List Nat} (h : w.ownsRow B T 1 v xs.length (uCells xs)) :
    ∃ A c, v = .slice A xs.length c ∧ Nsl w A xs ∧ xs.length ≤ c := by
  rcases Nat.eq_zero_or_pos xs.length with h0 | h0
  · have hnil : xs = [] := List.length_eq_zero_iff.1 h0
    subst hnil
    rcases h.2 with ⟨hv, _⟩ | ⟨g, cap, cur, hv, _⟩
    · exact ⟨none, 0, hv, Nsl.nil _ _, Nat.zero_le _⟩
    · exact ⟨_, cap, hv, Nsl.nil _ _, Nat.zero_le _⟩
  · rcases h.2 with ⟨_, hz⟩ | ⟨g, cap, cur, hv, _, _, hcap, _⟩
    · omega
    · subst hv
      obtain ⟨g', cap', hv', hg⟩ := h.form h0
      simp only [Value.slice.injEq, Option.some.injEq, Addr.mk.injEq, true_and, and_true] at hv'
      obtain ⟨rfl, rfl⟩ := hv'
      refine ⟨_, cap, rfl, fun _ => ⟨g, 0, rfl, hg.2, fun k x hx => ?_⟩, hcap⟩
      have h1 := h.cells (g := g) rfl k (.int .u64 x) (by unfold uCells; rw [List.getElem?_map, hx]; rfl)
      by_cases hj0 : k = 0
      · subst hj0; simpa [Addr.add] using h1
      · simpa [Addr.add, hj0] using h1
theorem u_one (xs : List Nat) : ∀ u ∈ uCells xs, u.oneCell' = true := by
  intro u hu
  obtain ⟨x, _, rfl⟩ := List.mem_map.1 hu
  rfl
theorem one_new (w : World) (v : Value) (t : TypeId) : ∀ j u, [v][j]? = some u → (w.alloc (.cells #[v] t)).cell? ((⟨w.heap.size, 0, none⟩ : Addr).add j) = some u := by
  intro j u hj
  match j, hj with
  | 0, hj => simp at hj; subst hj; simp [Addr.add]
  | j + 1, hj => simp at hj

set_option maxRecDepth 100000 in
set_option maxHeartbeats 1000000 in
theorem cut_any (xs : List Nat) (A : Option Addr) (c : Nat) (w : World) (hn : xs.length ≤ 1048576) (hc : xs.length ≤ c) (hA : Nsl w A xs) (hlt : ∀ x ∈ xs, x < 65536) :
    Calls Tryz.prog 120 #[.slice A xs.length c] w fun e w' => ∃ n, e = .returned (.slice A n c) ∧ n ≤ xs.length ∧ Hid (xs.take n = dgs 65536 (dv 65536 xs)) ∧ w = w' := by
  have HLT := Lib.hid hlt; clear hlt
  have h0 : Hid (dv 65536 (xs.take xs.length) = dv 65536 xs) := by show _ = _; rw [List.take_length]
  go_enter Tryz.func120, Tryz.ntmps120
  go_wp2_with fail
  go_loop [3] (fun n => ∃ k : Nat, k ≤ xs.length ∧ n = .int .i64 k ∧ Hid (dv 65536 (xs.take k) = dv 65536 xs)) (fun n => (intOf n).toNat)
  case atStart => exact ⟨_, Nat.le_refl _, rfl, h0⟩
  case round =>
    obtain ⟨k, hk, rfl, HK⟩ := hrel
    have kc : (k : Int) ≤ (c : Int) := by omega
    rcases Nat.eq_zero_or_pos k with hk0 | hk0
    · subst hk0
      have hfin : Hid (xs.take 0 = dgs 65536 (dv 65536 xs)) := by
        show _ = _
        rw [← HK.out, List.take_zero]
        exact (dgs_zero _).symm
      clear HK h0
      go_wp2_with fail
      go_ret
      exact ⟨0, rfl, Nat.zero_le _, hfin, rfl⟩
    · obtain ⟨j, rfl⟩ : ∃ j, k = j + 1 := ⟨k - 1, by omega⟩
      obtain ⟨x, hx⟩ : ∃ x, xs[j]? = some x := ⟨xs[j], List.getElem?_eq_getElem (by omega)⟩
      obtain ⟨g, o, rfl, hg, hcl⟩ := hA (by intro h; rw [h] at hk; simp at hk)
      have cj := hcl j x hx
      have hjn : (j : Int) < (xs.length : Int) := by omega
      have hx6 := HLT.out x (List.mem_of_getElem? hx)
      have HX := Lib.hid hx; clear hx hcl
      by_cases hx0 : x = 0
      · subst hx0
        have hstep : Hid (dv 65536 (xs.take j) = dv 65536 xs) := by show _ = _; rw [← HK.out, cut_zero xs j (by omega) HX.out]
        clear HK
        go_wp2_with fail
        go_round
        case rel => exact ⟨j, by omega, by go_num, hstep⟩
        case measure => simp [intOf] <;> omega
      · have hfin : Hid (xs.take (j + 1) = dgs 65536 (dv 65536 xs)) := by
          show _ = _
          rw [← HK.out]
          exact (cut_done (by decide) xs j x HLT.out HX.out (by omega)).symm
        have hx1 : ((x : Int) == 0) = false := beq_eq_false_iff_ne.2 (by omega)
        clear HK
        go_wp2_with fail
        go_ret
        exact ⟨j + 1, rfl, hk, hfin, rfl⟩
end
end Go.Proofs.YtbhekkkijomglaaGreatDoor
