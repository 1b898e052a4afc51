/- Put together: LexW4, Laid. -/
import Derived.Test.YtbhekkkijomglaaGreatDoorLexW3
import Derived.Test.YtbhekkkijomglaaGreatDoorLexA
import Derived.Test.YtbhekkkijomglaaGreatDoorRows
import Derived.Test.YtbhekkkijomglaaGreatDoorBaseZ
import Derived.OwnWalk
import Derived.WalkSpells
import Derived.Laws.AppendOwn
import Derived.MakeChecks
import Derived.LaidLaws
import Derived.Lib.LaidTab
namespace Go.Proofs.YtbhekkkijomglaaGreatDoor
/-! The walk of lex.All. -/
section
open Go.RowKit

theorem cell_five_new (w : World) (a b c d e : Value) (t : TypeId) : ∀ j u, [a, b, c, d, e][j]? = some u → (w.alloc (.cells #[a, b, c, d, e] t)).cell? ((⟨w.heap.size, 0, none⟩ : Addr).add j) = some u := by
  intro j u hj
  match j, hj with
  | 0, hj => simp at hj; subst hj; simp [Addr.add]
  | 1, hj => simp at hj; subst hj; simp [Addr.add]
  | 2, hj => simp at hj; subst hj; simp [Addr.add]
  | 3, hj => simp at hj; subst hj; simp [Addr.add]
  | 4, hj => simp at hj; subst hj; simp [Addr.add]
  | j + 5, hj => simp at hj
theorem cell_five_at (w : World) (o : Obj) (a b c d e : Value) (t : TypeId) : ∀ j u, [a, b, c, d, e][j]? = some u → ((w.alloc o).alloc (.cells #[a, b, c, d, e] t)).cell? ((⟨w.heap.size + 1, 0, none⟩ : Addr).add j) = some u := by
  have h := cell_five_new (w.alloc o) a b c d e t
  have e1 : (w.alloc o).heap.size = w.heap.size + 1 := by simp
  rwa [e1] at h
theorem own_below {B : Nat} {e : TypeId} {k : Nat} {v : Value} {n : Nat} {xs : List Value} {w w' : World} (h : w.ownsRow B e k v n xs) (hb : Below w.heap.size w w') : w'.ownsRow B e k v n xs :=
  h.kept (row := none) ⟨hb.os, hb.tape, hb.output, hb.size, fun j hj _ => hb.block j hj⟩ (by cases hv : v.ownBlock <;> simp)

/-- What All returns. -/
def AllPost (T : TypeId) (x : List MarkT × Nat × Nat) (w : World) (e : Ending) (w' : World) : Prop :=
  ∃ v, e = .returned (.tuple #[v, .int .i64 x.2.1, .int .i64 x.2.2]) ∧ w'.ownsRow w.heap.size T 5 v x.1.length (cellsOf x.1) ∧ Below w.heap.size w w'

set_option maxRecDepth 100000 in
set_option maxHeartbeats 1000000 in
theorem all_any (s : ByteArray) (w : World) (hs : s.size ≤ 65536) (hv : Env w) :
    Calls Tryz.prog 26 #[.string s] w (AllPost 54 (lexAll s.data.toList) w) := by
  have hlen : s.data.toList.length = s.size := by simp
  obtain ⟨i0, hi, hz0, hz1, hz2⟩ := info_parts (P := Tryz.prog) (e := 54) (z := .agg #[.int .u8 0, .int .i64 0, .int .i64 0, .int .i64 0, .string ⟨#[]⟩]) (size := 5) (bytes := 48) (by kernel_rfl)
  have hall : lexAll s.data.toList = allRest (s.size + 1) 0 s.data.toList := by rw [lexAll, if_neg (by omega), hlen]
  rw [hall, ← prep_nil]
  clear hall
  have HP : Hid (∀ e w', AllPost 54 (prep [] (allRest (s.size + 1) 0 s.data.toList)) w e w' = AllPost 54 (prep [] (allRest (s.size + 1) 0 s.data.toList)) w e w') := fun _ _ => rfl
  generalize hR : prep [] (allRest (s.size + 1) 0 s.data.toList) = R at *
  have HR := Lib.hid hR; clear hR HP
  have HL := Lib.hid hlen; clear hlen
  generalize hPO : AllPost 54 R w = PO
  have HPO := Lib.hid hPO; clear hPO
  go_enter Tryz.func26, Tryz.ntmps26
  go_wp2_with fail
  go_loopw [2, 5] (fun v a wr => ∃ (k f : Nat) (ms : List MarkT), a = .int .i64 k ∧ k ≤ s.size ∧ s.size < f + k ∧ ms.length ≤ k ∧ wr.ownsRow w.heap.size 54 5 v ms.length (cellsOf ms) ∧ Below w.heap.size w wr ∧ Hid (prep ms (allRest f k (s.data.toList.drop k)) = R)) (fun _ a _ => s.size - (intOf a).toNat)
  case atStart => exact ⟨0, s.size + 1, [], rfl, Nat.zero_le _, by omega, Nat.le_refl _, World.ownsRow_nil _ _ _ _, Below.refl _ _, HR.out⟩
  case round =>
    obtain ⟨k, f, ms, rfl, hk, hf, hml, hown, hbw, HS⟩ := hrel
    obtain ⟨f, rfl⟩ : ∃ f', f = f' + 1 := ⟨f - 1, by omega⟩
    have hN := next_any s k wr (by omega) (hv.step hbw)
    rw [lexNext_in _ _ (by rw [HL.out]; exact hk)] at hN
    have hends := fromRest_ends k (s.data.toList.drop k)
    rw [List.length_drop, HL.out] at hends
    have p1 := prep_bad ms f k (s.data.toList.drop k)
    have p2 := prep_stop ms f k (s.data.toList.drop k)
    have p3 := prep_more ms f k (s.data.toList.drop k)
    rw [HS.out] at p1 p2 p3
    rw [List.drop_drop] at p3
    clear HS HR
    generalize fromRest k (s.data.toList.drop k) = x at *
    obtain ⟨⟨kk, a, e, n, l⟩, pl, er⟩ := x
    have HN : Hid (Calls Tryz.prog 38 #[.string s, .int .i64 k] wr fun e' w' => e' = .returned (.tuple #[.agg #[.int .u8 kk, .int .i64 a, .int .i64 e, .int .i64 n, .string (bs l)], .int .i64 pl, .int .i64 er]) ∧ Below wr.heap.size wr w') := hN
    clear hN
    simp only at p1 p2 p3 hends
    by_cases her : er = 0
    · subst her
      by_cases hkk : kk = 10
      · subst hkk
        have HRR := Lib.hid (p2 rfl rfl)
        clear p1 p2 p3 hends
        go_wp2_with fail
        refine HN.out.mono ?_
        rintro e' w1 ⟨rfl, hb1⟩
        have hown1 := own_below hown hb1
        have hx := hbw.trans (hb1.mono hbw.size)
        have hB := (Blk.new w1 54 #[.int .u8 10, .int .i64 a, .int .i64 e, .int .i64 n, .string (bs l)])
        obtain ⟨⟨c0, c1, c2, c3, c4⟩, f0, f1, f2, f3, f4⟩ := hB.five
        have hb2 := (Below.refl w1.heap.size w1).alloc (Nat.le_refl _) (.cells #[.int .u8 10, .int .i64 a, .int .i64 e, .int .i64 n, .string (bs l)] 54)
        have hown2 := own_below hown1 hb2
        have hx2 := hx.trans (hb2.mono hx.size)
        have hnb : some w1.heap.size ≠ u2.ownBlock := fun h => by have := (hown1.lt _ h.symm).2; omega
        clear hown hown1 hb1 hb2 hx hbw
        have HX := Lib.hid hx2; clear hx2
        go_wp2_with fail
        refine bodyPost_ret (v := .tuple #[u2, .int .i64 0, .int .i64 0]) (by simp [results, Tryz.results26, go_sem]) rfl ?_
        rw [← HPO.out, HRR.out]
        exact ⟨_, rfl, hown2, HX.out⟩
      · have HRR := Lib.hid (p3 rfl hkk)
        obtain ⟨e1, e2⟩ := hends rfl hkk
        clear p1 p2 p3 hends
        have HU : Tryz.prog.underlying 50 = some (.slice 54) := by kernel_rfl
        have hk10 : ((kk : Int) == 10) = false := beq_eq_false_iff_ne.2 (by omega)
        go_wp2_with fail
        refine HN.out.mono ?_
        rintro e' w1 ⟨rfl, hb1⟩
        have hown1 := own_below hown hb1
        have hx := hbw.trans (hb1.mono hbw.size)
        have hB := (Blk.new w1 54 #[.int .u8 kk, .int .i64 a, .int .i64 e, .int .i64 n, .string (bs l)])
        obtain ⟨⟨c0, c1, c2, c3, c4⟩, f0, f1, f2, f3, f4⟩ := hB.five
        have hb2 := (Below.refl w1.heap.size w1).alloc (Nat.le_refl _) (.cells #[.int .u8 kk, .int .i64 a, .int .i64 e, .int .i64 n, .string (bs l)] 54)
        have hown2 := own_below hown1 hb2
        have hx2 := hx.trans (hb2.mono hx.size)
        have hnb : some w1.heap.size ≠ u2.ownBlock := fun h => by have := (hown1.lt _ h.symm).2; omega
        clear hown hown1 hb1 hb2 hx hbw
        have HX := Lib.hid hx2; clear hx2
        go_wp2_with (first
          | (at_builtin; refine wpList_append_own _ rfl _ _ 50 rfl w.heap.size 54 i0 (.agg #[.int .u8 0, .int .i64 0, .int .i64 0, .int .i64 0, .string ⟨#[]⟩]) 5 48 HU hi hz0 hz1 hz2 rfl (by decide) _ _ _ rfl (hown2.alloc _) ⟨w1.heap.size + 1, 0, none⟩ 1 1 [.int .u8 kk, .int .i64 a, .int .i64 e, .int .i64 n, .string (bs l)] rfl rfl (cell_five_at _ _ _ _ _ _ _ _) (fun x hx => by simp at hx; rcases hx with rfl | rfl | rfl | rfl | rfl <;> rfl) (by unfold maxLen; omega) (by omega) (by have := HX.out.size; simp at this ⊢; omega) ?_; intro v' w3 hown' hgrow3 hnil3
             have hB3 := (hB.alloc (.cells #[.int .u8 kk, .int .i64 a, .int .i64 e, .int .i64 n, .string (bs l)] 54)).grown hgrow3 hnb
             obtain ⟨⟨t0, t1, t2, t3, t4⟩, v0, v1, v2, v3, v4⟩ := hB3.five
             have hbw3 := Below.grown (HX.out.alloc HX.out.size (.cells #[.int .u8 kk, .int .i64 a, .int .i64 e, .int .i64 n, .string (bs l)] 54)) hgrow3 (by have := HX.out.size; simp at this ⊢; omega) (fun j hj => (hown2.lt _ hj).1)
             have X := Lib.hid (And.intro hown' hbw3)
             clear hown' hbw3 hgrow3 hnil3 hB3))
        go_roundw
        case rel => exact ⟨e, f, ms ++ [(kk, a, e, n, l)], rfl, by omega, by omega, by rw [List.length_append, List.length_singleton]; omega, by rw [List.length_append, List.length_singleton, cellsOf_snoc]; exact X.out.1, X.out.2, by show _ = _; rw [HRR.out, show k + (e - k) = e by omega]⟩
        case measure => simp [intOf]; omega
    · have HRR := Lib.hid (p1 her)
      clear p1 p2 p3 hends
      have hne : ((er : Int) == 0) = false := beq_eq_false_iff_ne.2 (by omega)
      have hne' : ((er : Int) != 0) = true := bne_iff_ne.2 (by omega)
      go_wp2_with fail
      refine HN.out.mono ?_
      rintro e' w1 ⟨rfl, hb1⟩
      have hown1 := own_below hown hb1
      have hx := hbw.trans (hb1.mono hbw.size)
      have hB := (Blk.new w1 54 #[.int .u8 kk, .int .i64 a, .int .i64 e, .int .i64 n, .string (bs l)])
      obtain ⟨⟨c0, c1, c2, c3, c4⟩, f0, f1, f2, f3, f4⟩ := hB.five
      have hb2 := (Below.refl w1.heap.size w1).alloc (Nat.le_refl _) (.cells #[.int .u8 kk, .int .i64 a, .int .i64 e, .int .i64 n, .string (bs l)] 54)
      have hown2 := own_below hown1 hb2
      have hx2 := hx.trans (hb2.mono hx.size)
      have hnb : some w1.heap.size ≠ u2.ownBlock := fun h => by have := (hown1.lt _ h.symm).2; omega
      clear hown hown1 hb1 hb2 hx hbw
      have HX := Lib.hid hx2; clear hx2
      go_wp2_with fail
      refine bodyPost_ret (v := .tuple #[.slice none 0 0, .int .i64 pl, .int .i64 er]) (by simp [results, Tryz.results26, go_sem]) rfl ?_
      rw [← HPO.out, HRR.out]
      exact ⟨_, rfl, World.ownsRow_nil _ _ _ _, HX.out⟩
end

/-! What a row's list of package-level variables gives the walks. -/
section
open Go.RowKit

theorem laid_mem {P : Program} {w : World} : ∀ {laid : List (String × DataW Unit)} {ps : List MemPlace}, DataW.LaidVars P w laid ps → ∀ {n : String} {d : DataW Unit}, (n, d) ∈ laid →
    ∃ g t cs fuel p, P.globalNamed n = some g ∧ (P.globals[g]?).map (·.type) = some t ∧ w.var? P n = some cs ∧ DataW.trod (fun _ => ()) P w 0 (fun _ => true) false fuel t cs.toList = some (d, p)
  | [], _, _, _, _, hm => by cases hm
  | (m, e) :: r, ps, h, n, d, hm => by
    obtain ⟨g, t, cs, fuel, p, q, h1, h2, h3, h4, h5, _⟩ := h
    rcases List.mem_cons.1 hm with e | hm
    · cases e
      exact ⟨g, t, cs, fuel, p, h1, h2, h3, h4⟩
    · exact laid_mem h5 hm
theorem toArray_of {α : Type} {a : Array α} {l : List α} (h : a.toList = l) : a = l.toArray := by rw [← h]
theorem env_of_laid {W : World} {laid : List (String × DataW Unit)} (hl : laidMetH Tryz.prog laid W) (hp : (laid.all fun x => x.2.handleName?.isNone) = true)
    (m1 : ("internal/strconv.uint64pow10", (Lib.tabData .u64 Lib.pow10Tab : DataW Unit)) ∈ laid) (m2 : ("strconv.ErrRange", (Rows.laid_strconv_ErrRange : DataW Unit)) ∈ laid) : Env W := by
  rw [MakeChecks.laidMetH_plain _ _ _ hp] at hl
  obtain ⟨ps, hv, _⟩ := hl
  refine ⟨?_, ?_⟩
  · obtain ⟨g, t, cs, fuel, p, h1, h2, h3, h4⟩ := laid_mem hv m2
    obtain rfl := Option.some.inj ((show Tryz.prog.globalNamed "strconv.ErrRange" = some 7 by kernel_rfl).symm.trans h1)
    obtain rfl := Option.some.inj ((show (Tryz.prog.globals[7]?).map (·.type) = some 90 by kernel_rfl).symm.trans h2)
    obtain ⟨_, u, v, hc, _⟩ := iface_of_trod Tryz.underlying90 h4
    exact ⟨u, v, by rw [h3, toArray_of hc]⟩
  · obtain ⟨g, t, cs, fuel, p, h1, h2, h3, h4⟩ := laid_mem hv m1
    obtain rfl := Option.some.inj ((show Tryz.prog.globalNamed "internal/strconv.uint64pow10" = some 0 by kernel_rfl).symm.trans h1)
    obtain rfl := Option.some.inj ((show (Tryz.prog.globals[0]?).map (·.type) = some 172 by kernel_rfl).symm.trans h2)
    have hc := Lib.cells_of_tab Tryz.underlying172 Tryz.underlying130 (by kernel_rfl) (by kernel_rfl) h4
    show _ = _
    rw [h3, toArray_of hc]
end
end Go.Proofs.YtbhekkkijomglaaGreatDoor
