/- The walk of LexOne. -/
import Derived.Test.YtckmhbgpaiocbaaDoorLexW7
namespace Go.Proofs.YtckmhbgpaiocbaaDoor
open Go.RowKit

/-- An owned row of marks: its value's form, and where the marks stand. -/
theorem own_marks {w : World} {B : Nat} {T : TypeId} {v : Value} {ms : List MarkT} (h : w.ownsRow B T 5 v ms.length (cellsOf ms)) :
    ∃ A c, v = .slice A ms.length c ∧ (ms ≠ [] → ∃ g, A = some ⟨g, 0, none⟩ ∧ g < w.heap.size ∧ MarksAt w g 0 (ms.map ofT)) := by
  rcases Nat.eq_zero_or_pos ms.length with h0 | h0
  · have hnil : ms = [] := List.length_eq_zero_iff.1 h0
    subst hnil
    rcases h.2 with ⟨hv, _⟩ | ⟨g, cap, cur, hv, _⟩
    · exact ⟨none, 0, hv, fun h => absurd rfl h⟩
    · exact ⟨_, cap, hv, fun h => absurd rfl h⟩
  · obtain ⟨g, cap, rfl, hg⟩ := h.form h0
    refine ⟨_, cap, rfl, fun _ => ⟨g, rfl, hg.2, ⟨fun _ => hg.2, fun j u hj => ?_⟩⟩⟩
    have h1 := h.cells (g := g) rfl j u (by rw [← cellsZ_of]; exact hj)
    by_cases hj0 : j = 0
    · subst hj0; simpa [Addr.add] using h1
    · simpa [Addr.add, hj0] using h1

theorem bel_close {a b c d : World} (h1 : Below a.heap.size a b) (h2 : Below b.heap.size b c) (h3 : Below c.heap.size c d) (o : Obj) : Below a.heap.size a (d.alloc o) :=
  have h := h1.trans ((h2.trans (h3.mono h2.size)).mono h1.size)
  h.alloc h.size o

set_option maxRecDepth 100000 in
set_option maxHeartbeats 1000000 in
theorem one_any (s : ByteArray) (w : World) (hv : Env w) (hmax : s.size ≤ maxLen) :
    Calls Tryd.prog 10 #[.string s] w fun e w' => e = .returned (.bool true) ∧ Below w.heap.size w w' := by
  unfold maxLen at hmax
  by_cases h20 : 20000 < s.size
  · go_enter Tryd.func10, Tryd.ntmps10
    go_wp2_with fail
    refine (awake_any _ hv).mono ?_
    rintro e w1 ⟨rfl, hb⟩
    go_wp2_with fail
    go_ret
    exact ⟨rfl, hb⟩
  · go_enter Tryd.func10, Tryd.ntmps10
    go_wp2_with fail
    refine (awake_any _ hv).mono ?_
    rintro e w1 ⟨rfl, hb1⟩
    go_wp2_with fail
    refine (all_any s _ (by omega) (hv.step hb1)).mono ?_
    rintro e w2 ⟨v, rfl, hown, hb2⟩
    obtain ⟨A, c, rfl, hA⟩ := own_marks hown
    clear hown
    have hlen : s.data.toList.length = s.size := by simp
    have hall : prep [] (allRest (s.size + 1) 0 (s.data.toList.drop 0)) = lexAll s.data.toList := by
      rw [prep_nil, List.drop_zero, lexAll, if_neg (by omega), hlen]
    have hbw := hb1.trans (hb2.mono hb1.size)
    clear hb1 hb2
    generalize lexAll s.data.toList = R at *
    obtain ⟨rm, rp, re⟩ := R
    have HL := Lib.hid hlen; clear hlen
    have HR := Lib.hid hall; clear hall
    go_wp2_with fail
    go_loopw [6, 7] (fun a i wr => ∃ (k f : Nat) (ms : List MarkT), a = .int .i64 k ∧ i = .int .i64 ms.length ∧ k ≤ s.size ∧ s.size < f + k ∧ ms.length ≤ k ∧ Below w2.heap.size w2 wr ∧ Hid (prep ms (allRest f k (s.data.toList.drop k)) = (rm, rp, re))) (fun a _ _ => s.size - (intOf a).toNat)
    case atStart => exact ⟨0, s.size + 1, [], rfl, rfl, Nat.zero_le _, by omega, Nat.le_refl _, Below.refl _ _, HR.out⟩
    case round =>
      obtain ⟨k, f, ms, rfl, rfl, hk, hf, hml, hbw2, HS⟩ := hrel
      obtain ⟨f, rfl⟩ : ∃ f', f = f' + 1 := ⟨f - 1, by omega⟩
      have hN := fun W h => next_any s k W (by omega) h
      rw [lexNext_in _ _ (by rw [HL.out]; exact hk)] at hN
      have hends := fromRest_ends k (s.data.toList.drop k)
      have hstop := fromRest_stop k (s.data.toList.drop k)
      rw [List.length_drop, HL.out] at hends hstop
      have p0 : (fromRest k (s.data.toList.drop k)).2.2 ≠ 0 → (fromRest k (s.data.toList.drop k)).1 = noMark := by
        intro h
        rcases Nat.lt_or_eq_of_le (skipN_le (s.data.toList.drop k)) with h1 | h1
        · rw [fromRest_run _ _ h1] at h ⊢
          unfold fromRun ofGot at h ⊢
          split at h
          · exact absurd rfl h
          · rename_i h2; rw [if_neg h2]
        · rw [fromRest_end _ _ h1] at h; exact absurd rfl h
      have p1 := prep_bad ms f k (s.data.toList.drop k)
      have p2 := prep_stop ms f k (s.data.toList.drop k)
      have p3 := prep_more ms f k (s.data.toList.drop k)
      rw [HS.out] at p1 p2 p3
      rw [List.drop_drop] at p3
      clear HS HR
      generalize fromRest k (s.data.toList.drop k) = x at *
      obtain ⟨⟨kk, a, e, n, l⟩, pl, er⟩ := x
      have HN : Hid (∀ W, Env W → Calls Tryd.prog 12 #[.string s, .int .i64 k] W fun e' w' => e' = .returned (.tuple #[.agg #[.int .u8 kk, .int .i64 a, .int .i64 e, .int .i64 n, .string (bs l)], .int .i64 pl, .int .i64 er]) ∧ Below W.heap.size W w') := hN
      clear hN
      simp only at p0 p1 p2 p3 hends
      by_cases her : er = 0
      · subst her
        by_cases hkk : kk = 10
        · have h1 := p2 rfl hkk
          have h2 := hstop hkk
          clear p0 p1 p2 p3 hends hstop
          simp only [Prod.mk.injEq] at h1 h2
          obtain ⟨rfl, rfl, rfl⟩ := h1
          obtain ⟨⟨rfl, rfl, rfl, rfl, rfl⟩, rfl, -⟩ := h2
          rw [show k + (s.size - k) = s.size by omega] at HN
          go_wp2_with fail
          refine (HN.out _ (hv.step (hbw.trans (hbw2.mono hbw.size)))).mono ?_
          rintro e' w3 ⟨rfl, hb3⟩
          go_wp2_with fail
          go_ret
          exact ⟨rfl, bel_close hbw hbw2 hb3 _⟩
        · have hp := p3 rfl hkk
          obtain ⟨e1, e2⟩ := hends rfl hkk
          clear p0 p1 p2 p3 hends hstop
          rw [show k + (e - k) = e by omega] at hp
          have hk10 : ((kk : Int) == 10) = false := beq_eq_false_iff_ne.2 (by omega)
          have hend1 : ¬ (e : Int) ≤ (k : Int) := by omega
          have hend2 : ¬ (s.size : Int) < (e : Int) := by omega
          have hend3 : decide (e ≤ k) = false := decide_eq_false (by omega)
          have hend4 : decide (s.size < e) = false := decide_eq_false (by omega)
          by_cases hre : re = 0
          · subst hre
            have hrm : rm = ms ++ (kk, a, e, n, l) :: (allRest f e (s.data.toList.drop e)).1 := by
              unfold prep at hp
              split at hp
              · simp only [Prod.mk.injEq] at hp; rw [hp.1, List.append_assoc]; rfl
              · rename_i h9; simp only [Prod.mk.injEq] at hp; rw [← hp.2] at h9; exact absurd rfl h9
            have hget : rm[ms.length]? = some (kk, a, e, n, l) := by rw [hrm]; simp
            have hlt : ms.length < rm.length := (List.getElem?_eq_some_iff.1 hget).1
            have hlt2 : decide (rm.length ≤ ms.length) = false := decide_eq_false (by omega)
            obtain ⟨g, rfl, hg, hat⟩ := hA (by intro h; rw [h] at hlt; simp at hlt)
            have hgetz : (rm.map ofT)[ms.length]? = some (ofT (kk, a, e, n, l)) := by rw [List.getElem?_map, hget]; rfl
            have HRM := Lib.hid hp; clear hp hrm hget
            have HAT := Lib.hid hat; clear hat
            have HGZ := Lib.hid hgetz; clear hgetz
            go_wp2_with fail
            refine (HN.out _ (hv.step (hbw.trans (hbw2.mono hbw.size)))).mono ?_
            rintro e' w3 ⟨rfl, hb3⟩
            have hbw3 := hbw2.trans (hb3.mono hbw2.size)
            have hat3 := HAT.out.below hbw3 (Nat.le_refl _)
            obtain ⟨c0, c1, c2, c3, c4⟩ := hat3.five HGZ.out
            simp only [ofT, Nat.zero_add] at c0 c1 c2 c3 c4
            have hm3 := Blk.new w3 24 #[.int .u8 kk, .int .i64 a, .int .i64 e, .int .i64 n, .string (bs l)]
            have hglt : g < w3.heap.size := Nat.lt_of_lt_of_le hg hbw3.size
            have hgne : ¬ g = w3.heap.size := by omega
            clear hat3
            go_wp2_with fail
            go_quiet (fail)
            go_wp2_with fail
            go_roundw
            case rel =>
              repeat (apply Exists.intro)
              exact ⟨⟨e, f, ms ++ [(kk, a, e, n, l)], rfl, by rw [List.length_append]; go_num, by omega, by omega, by rw [List.length_append, List.length_singleton]; omega, below_drewN (hbw3.alloc hbw3.size _) _, HRM.out.symm⟩, rfl⟩
            case measure => simp [intOf]; omega
          · have hre1 : ((re : Int) == 0) = false := beq_eq_false_iff_ne.2 (by omega)
            have HRM := Lib.hid hp; clear hp
            go_wp2_with fail
            refine (HN.out _ (hv.step (hbw.trans (hbw2.mono hbw.size)))).mono ?_
            rintro e' w3 ⟨rfl, hb3⟩
            have hbw3 := hbw2.trans (hb3.mono hbw2.size)
            have hm3 := Blk.new w3 24 #[.int .u8 kk, .int .i64 a, .int .i64 e, .int .i64 n, .string (bs l)]
            go_wp2_with fail
            go_quiet (fail)
            go_wp2_with fail
            go_roundw
            case rel =>
              exact ⟨e, f, ms ++ [(kk, a, e, n, l)], rfl, by rw [List.length_append]; go_num, by omega, by omega, by rw [List.length_append, List.length_singleton]; omega, below_drewN (hbw3.alloc hbw3.size _) _, HRM.out.symm⟩
            case measure => simp [intOf]; omega
      · have h0 := p0 her
        have h1 := p1 her
        clear p0 p1 p2 p3 hends hstop
        simp only [noMark, Prod.mk.injEq] at h0 h1
        obtain ⟨rfl, rfl, rfl, rfl, rfl⟩ := h0
        obtain ⟨rfl, rfl, rfl⟩ := h1
        rw [← bs_nil] at HN
        have hne : ((re : Int) == 0) = false := beq_eq_false_iff_ne.2 (by omega)
        have hne' : ((re : Int) != 0) = true := bne_iff_ne.2 (by omega)
        go_wp2_with fail
        refine (HN.out _ (hv.step (hbw.trans (hbw2.mono hbw.size)))).mono ?_
        rintro e' w3 ⟨rfl, hb3⟩
        go_wp2_with fail
        go_ret
        exact ⟨rfl, bel_close hbw hbw2 hb3 _⟩
end Go.Proofs.YtckmhbgpaiocbaaDoor
