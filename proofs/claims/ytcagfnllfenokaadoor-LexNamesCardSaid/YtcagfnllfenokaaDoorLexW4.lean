/- The walk of lex.All. -/
import Derived.Test.YtcagfnllfenokaaDoorLexW3
import Derived.Test.YtcagfnllfenokaaDoorLexA
import Derived.OwnWalk
import Derived.WalkSpells
import Derived.Laws.AppendOwn
namespace Go.Proofs.YtcagfnllfenokaaDoor
open Go.RowKit

theorem cell_five_new (w : World) (a b c d e : Value) (t : TypeId) : ∀ j u, [a, b, c, d, e][j]? = some u → (w.alloc (.cells #[a, b, c, d, e] t)).cell? ((⟨w.heap.size, 0, none⟩ : Addr).add j) = some u := by
  intro j u hj
  match j, hj with
  | 0, hj => simp at hj; subst hj; simp [Addr.add]
  | 1, hj => simp at hj; subst hj; simp [Addr.add]
  | 2, hj => simp at hj; subst hj; simp [Addr.add]
  | 3, hj => simp at hj; subst hj; simp [Addr.add]
  | 4, hj => simp at hj; subst hj; simp [Addr.add]
  | j + 5, hj => simp at hj
theorem cell_five_at (w : World) (o : Obj) (a b c d e : Value) (t : TypeId) : ∀ j u, [a, b, c, d, e][j]? = some u → ((w.alloc o).alloc (.cells #[a, b, c, d, e] t)).cell? ((⟨w.heap.size + 1, 0, none⟩ : Addr).add j) = some u := by
  have h := cell_five_new (w.alloc o) a b c d e t
  have e1 : (w.alloc o).heap.size = w.heap.size + 1 := by simp
  rwa [e1] at h
theorem own_below {B : Nat} {e : TypeId} {k : Nat} {v : Value} {n : Nat} {xs : List Value} {w w' : World} (h : w.ownsRow B e k v n xs) (hb : Below w.heap.size w w') : w'.ownsRow B e k v n xs :=
  h.kept (row := none) ⟨hb.os, hb.tape, hb.output, hb.size, fun j hj _ => hb.block j hj⟩ (by cases hv : v.ownBlock <;> simp)

/-- What All returns. -/
def AllPost (T : TypeId) (x : List MarkT × Nat × Nat) (w : World) (e : Ending) (w' : World) : Prop :=
  ∃ v, e = .returned (.tuple #[v, .int .i64 x.2.1, .int .i64 x.2.2]) ∧ w'.ownsRow w.heap.size T 5 v x.1.length (cellsOf x.1) ∧ Below w.heap.size w w'

set_option maxRecDepth 100000 in
set_option maxHeartbeats 1000000 in
theorem all_any (s : ByteArray) (w : World) (hs : s.size ≤ 65536) (hv : Env w) :
    Calls Tryd.prog 5 #[.string s] w (AllPost 30 (lexAll s.data.toList) w) := by
  have hlen : s.data.toList.length = s.size := by simp
  obtain ⟨i0, hi, hz0, hz1, hz2⟩ := info_parts (P := Tryd.prog) (e := 30) (z := .agg #[.int .u8 0, .int .i64 0, .int .i64 0, .int .i64 0, .string ⟨#[]⟩]) (size := 5) (bytes := 48) (by kernel_rfl)
  have hall : lexAll s.data.toList = allRest (s.size + 1) 0 s.data.toList := by rw [lexAll, if_neg (by omega), hlen]
  rw [hall, ← prep_nil]
  clear hall
  have HP : Hid (∀ e w', AllPost 30 (prep [] (allRest (s.size + 1) 0 s.data.toList)) w e w' = AllPost 30 (prep [] (allRest (s.size + 1) 0 s.data.toList)) w e w') := fun _ _ => rfl
  generalize hR : prep [] (allRest (s.size + 1) 0 s.data.toList) = R at *
  have HR := Lib.hid hR; clear hR HP
  have HL := Lib.hid hlen; clear hlen
  generalize hPO : AllPost 30 R w = PO
  have HPO := Lib.hid hPO; clear hPO
  go_enter Tryd.func5, Tryd.ntmps5
  go_wp2_with fail
  go_loopw [2, 5] (fun v a wr => ∃ (k f : Nat) (ms : List MarkT), a = .int .i64 k ∧ k ≤ s.size ∧ s.size < f + k ∧ ms.length ≤ k ∧ wr.ownsRow w.heap.size 30 5 v ms.length (cellsOf ms) ∧ Below w.heap.size w wr ∧ Hid (prep ms (allRest f k (s.data.toList.drop k)) = R)) (fun _ a _ => s.size - (intOf a).toNat)
  case atStart => exact ⟨0, s.size + 1, [], rfl, Nat.zero_le _, by omega, Nat.le_refl _, World.ownsRow_nil _ _ _ _, Below.refl _ _, HR.out⟩
  case round =>
    obtain ⟨k, f, ms, rfl, hk, hf, hml, hown, hbw, HS⟩ := hrel
    obtain ⟨f, rfl⟩ : ∃ f', f = f' + 1 := ⟨f - 1, by omega⟩
    have hN := next_any s k wr (by omega) (hv.step hbw)
    rw [lexNext_in _ _ (by rw [HL.out]; exact hk)] at hN
    have hends := fromRest_ends k (s.data.toList.drop k)
    rw [List.length_drop, HL.out] at hends
    have p1 := prep_bad ms f k (s.data.toList.drop k)
    have p2 := prep_stop ms f k (s.data.toList.drop k)
    have p3 := prep_more ms f k (s.data.toList.drop k)
    rw [HS.out] at p1 p2 p3
    rw [List.drop_drop] at p3
    clear HS HR
    generalize fromRest k (s.data.toList.drop k) = x at *
    obtain ⟨⟨kk, a, e, n, l⟩, pl, er⟩ := x
    have HN : Hid (Calls Tryd.prog 6 #[.string s, .int .i64 k] wr fun e' w' => e' = .returned (.tuple #[.agg #[.int .u8 kk, .int .i64 a, .int .i64 e, .int .i64 n, .string (bs l)], .int .i64 pl, .int .i64 er]) ∧ Below wr.heap.size wr w') := hN
    clear hN
    simp only at p1 p2 p3 hends
    by_cases her : er = 0
    · subst her
      by_cases hkk : kk = 10
      · subst hkk
        have HRR := Lib.hid (p2 rfl rfl)
        clear p1 p2 p3 hends
        go_wp2_with fail
        refine HN.out.mono ?_
        rintro e' w1 ⟨rfl, hb1⟩
        have hown1 := own_below hown hb1
        have hx := hbw.trans (hb1.mono hbw.size)
        have hB := (Blk.new w1 30 #[.int .u8 10, .int .i64 a, .int .i64 e, .int .i64 n, .string (bs l)])
        obtain ⟨⟨c0, c1, c2, c3, c4⟩, f0, f1, f2, f3, f4⟩ := hB.five
        have hb2 := (Below.refl w1.heap.size w1).alloc (Nat.le_refl _) (.cells #[.int .u8 10, .int .i64 a, .int .i64 e, .int .i64 n, .string (bs l)] 30)
        have hown2 := own_below hown1 hb2
        have hx2 := hx.trans (hb2.mono hx.size)
        have hnb : some w1.heap.size ≠ u2.ownBlock := fun h => by have := (hown1.lt _ h.symm).2; omega
        clear hown hown1 hb1 hb2 hx hbw
        have HX := Lib.hid hx2; clear hx2
        go_wp2_with fail
        refine bodyPost_ret (v := .tuple #[u2, .int .i64 0, .int .i64 0]) (by simp [results, Tryd.results5, go_sem]) rfl ?_
        rw [← HPO.out, HRR.out]
        exact ⟨_, rfl, hown2, HX.out⟩
      · have HRR := Lib.hid (p3 rfl hkk)
        obtain ⟨e1, e2⟩ := hends rfl hkk
        clear p1 p2 p3 hends
        have HU : Tryd.prog.underlying 26 = some (.slice 30) := by kernel_rfl
        have hk10 : ((kk : Int) == 10) = false := beq_eq_false_iff_ne.2 (by omega)
        go_wp2_with fail
        refine HN.out.mono ?_
        rintro e' w1 ⟨rfl, hb1⟩
        have hown1 := own_below hown hb1
        have hx := hbw.trans (hb1.mono hbw.size)
        have hB := (Blk.new w1 30 #[.int .u8 kk, .int .i64 a, .int .i64 e, .int .i64 n, .string (bs l)])
        obtain ⟨⟨c0, c1, c2, c3, c4⟩, f0, f1, f2, f3, f4⟩ := hB.five
        have hb2 := (Below.refl w1.heap.size w1).alloc (Nat.le_refl _) (.cells #[.int .u8 kk, .int .i64 a, .int .i64 e, .int .i64 n, .string (bs l)] 30)
        have hown2 := own_below hown1 hb2
        have hx2 := hx.trans (hb2.mono hx.size)
        have hnb : some w1.heap.size ≠ u2.ownBlock := fun h => by have := (hown1.lt _ h.symm).2; omega
        clear hown hown1 hb1 hb2 hx hbw
        have HX := Lib.hid hx2; clear hx2
        go_wp2_with (first
          | (at_builtin; refine wpList_append_own _ rfl _ _ 26 rfl w.heap.size 30 i0 (.agg #[.int .u8 0, .int .i64 0, .int .i64 0, .int .i64 0, .string ⟨#[]⟩]) 5 48 HU hi hz0 hz1 hz2 rfl (by decide) _ _ _ rfl (hown2.alloc _) ⟨w1.heap.size + 1, 0, none⟩ 1 1 [.int .u8 kk, .int .i64 a, .int .i64 e, .int .i64 n, .string (bs l)] rfl rfl (cell_five_at _ _ _ _ _ _ _ _) (fun x hx => by simp at hx; rcases hx with rfl | rfl | rfl | rfl | rfl <;> rfl) (by unfold maxLen; omega) (by omega) (by have := HX.out.size; simp at this ⊢; omega) ?_; intro v' w3 hown' hgrow3 hnil3
             have hB3 := (hB.alloc (.cells #[.int .u8 kk, .int .i64 a, .int .i64 e, .int .i64 n, .string (bs l)] 30)).grown hgrow3 hnb
             obtain ⟨⟨t0, t1, t2, t3, t4⟩, v0, v1, v2, v3, v4⟩ := hB3.five
             have hbw3 := Below.grown (HX.out.alloc HX.out.size (.cells #[.int .u8 kk, .int .i64 a, .int .i64 e, .int .i64 n, .string (bs l)] 30)) hgrow3 (by have := HX.out.size; simp at this ⊢; omega) (fun j hj => (hown2.lt _ hj).1)
             have X := Lib.hid (And.intro hown' hbw3)
             clear hown' hbw3 hgrow3 hnil3 hB3))
        go_roundw
        case rel => exact ⟨e, f, ms ++ [(kk, a, e, n, l)], rfl, by omega, by omega, by rw [List.length_append, List.length_singleton]; omega, by rw [List.length_append, List.length_singleton, cellsOf_snoc]; exact X.out.1, X.out.2, by show _ = _; rw [HRR.out, show k + (e - k) = e by omega]⟩
        case measure => simp [intOf]; omega
    · have HRR := Lib.hid (p1 her)
      clear p1 p2 p3 hends
      have hne : ((er : Int) == 0) = false := beq_eq_false_iff_ne.2 (by omega)
      have hne' : ((er : Int) != 0) = true := bne_iff_ne.2 (by omega)
      go_wp2_with fail
      refine HN.out.mono ?_
      rintro e' w1 ⟨rfl, hb1⟩
      have hown1 := own_below hown hb1
      have hx := hbw.trans (hb1.mono hbw.size)
      have hB := (Blk.new w1 30 #[.int .u8 kk, .int .i64 a, .int .i64 e, .int .i64 n, .string (bs l)])
      obtain ⟨⟨c0, c1, c2, c3, c4⟩, f0, f1, f2, f3, f4⟩ := hB.five
      have hb2 := (Below.refl w1.heap.size w1).alloc (Nat.le_refl _) (.cells #[.int .u8 kk, .int .i64 a, .int .i64 e, .int .i64 n, .string (bs l)] 30)
      have hown2 := own_below hown1 hb2
      have hx2 := hx.trans (hb2.mono hx.size)
      have hnb : some w1.heap.size ≠ u2.ownBlock := fun h => by have := (hown1.lt _ h.symm).2; omega
      clear hown hown1 hb1 hb2 hx hbw
      have HX := Lib.hid hx2; clear hx2
      go_wp2_with fail
      refine bodyPost_ret (v := .tuple #[.slice none 0 0, .int .i64 pl, .int .i64 er]) (by simp [results, Tryd.results5, go_sem]) rfl ?_
      rw [← HPO.out, HRR.out]
      exact ⟨_, rfl, World.ownsRow_nil _ _ _ _, HX.out⟩
end Go.Proofs.YtcagfnllfenokaaDoor
