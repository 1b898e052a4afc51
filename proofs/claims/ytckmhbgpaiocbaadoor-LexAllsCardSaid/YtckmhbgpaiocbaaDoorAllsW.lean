/- The walk of LexAlls. -/
import Derived.Test.YtckmhbgpaiocbaaDoorRefA
import Derived.Test.YtckmhbgpaiocbaaDoorLexW7
import Derived.Test.YtckmhbgpaiocbaaDoorSameW
namespace Go.Proofs.YtckmhbgpaiocbaaDoor
open Go.RowKit

/-- What both All's tell: marks in memory of their own. -/
def AllZ (T : TypeId) (zs : List MarkZ) (p e : Nat) (W : World) (e' : Ending) (w' : World) : Prop :=
  ∃ v, e' = .returned (.tuple #[v, .int .i64 p, .int .i64 e]) ∧ w'.ownsRow W.heap.size T 5 v zs.length (cellsZ zs) ∧ Below W.heap.size W w'
theorem allz_of {T : TypeId} {x : List MarkT × Nat × Nat} {W : World} {e' : Ending} {w' : World} (h : AllPost T x W e' w') : AllZ T (x.1.map ofT) x.2.1 x.2.2 W e' w' := by
  obtain ⟨v, h1, h2, h3⟩ := h
  exact ⟨v, h1, by rw [cellsZ_of, List.length_map]; exact h2, h3⟩
theorem allz_lex (s : ByteArray) (hmax : s.size ≤ maxLen) (W : World) (hv : Env W) :
    Calls Tryd.prog 15 #[.string s] W (AllZ 24 ((lexAll s.data.toList).1.map ofT) (lexAll s.data.toList).2.1 (lexAll s.data.toList).2.2 W) := by
  have hlen : s.data.toList.length = s.size := by simp
  by_cases h : s.size ≤ 65536
  · exact (all_any s W h hv).mono fun e' w' hh => allz_of hh
  · rw [lexAll_long _ (by omega)]
    refine (all_long s W (by omega) hmax).mono ?_
    rintro e' w' ⟨rfl, rfl⟩
    exact ⟨_, rfl, World.ownsRow_nil _ _ _ _, Below.refl _ _⟩
theorem allz_ref (s : ByteArray) (hmax : s.size ≤ maxLen) (hs : s.size ≤ 20000 ∨ 65536 < s.size) (W : World) :
    Calls Tryd.prog 14 #[.string s] W (AllZ 28 ((lexAll s.data.toList).1.map ofT) (lexAll s.data.toList).2.1 (lexAll s.data.toList).2.2 W) := by
  have hlen : s.data.toList.length = s.size := by simp
  rcases hs with h | h
  · exact (rall_any s W h).mono fun e' w' hh => allz_of hh
  · rw [lexAll_long _ (by omega)]
    refine (rall_long s W (by omega) hmax).mono ?_
    rintro e' w' ⟨rfl, rfl⟩
    exact ⟨_, rfl, World.ownsRow_nil _ _ _ _, Below.refl _ _⟩
theorem lexAll_many (s : ByteArray) : (lexAll s.data.toList).1.length ≤ 65537 := by
  have hlen : s.data.toList.length = s.size := by simp
  by_cases h : 65536 < s.data.toList.length
  · rw [lexAll_long _ h]; exact Nat.zero_le _
  · rw [marks_lex _ (by omega)]
    have := (marks_size s.data.toList 0).2
    omega

set_option maxRecDepth 100000 in
set_option maxHeartbeats 2000000 in
theorem alls_any (s : ByteArray) (w : World) (hv : Env w) (hmax : s.size ≤ maxLen) :
    Calls Tryd.prog 4 #[.string s] w fun e w' => e = .returned (.bool true) ∧ Below w.heap.size w w' := by
  have hmax' := hmax
  unfold maxLen at hmax
  by_cases h20 : 20000 < s.size ∧ s.size ≤ 65536
  · obtain ⟨h1, h2⟩ := h20
    go_enter Tryd.func4, Tryd.ntmps4
    go_wp2_with fail
    refine (awake_any _ hv).mono ?_
    rintro e w1 ⟨rfl, hb⟩
    go_wp2_with fail
    go_ret
    exact ⟨rfl, hb⟩
  · have hs : s.size ≤ 20000 ∨ 65536 < s.size := by omega
    have hL := fun W h => allz_lex s hmax' W h
    have hR := fun W => allz_ref s hmax' hs W
    have hmany := lexAll_many s
    generalize lexAll s.data.toList = x at *
    obtain ⟨ms, p, er⟩ := x
    simp only at hL hR hmany
    have hzl : (ms.map ofT).length = ms.length := List.length_map ..
    rw [← hzl] at hmany
    clear hzl
    generalize ms.map ofT = zs at *
    have HL := Lib.hid hL; have HR := Lib.hid hR
    clear hL hR hmax' h20
    have hsz : decide (20000 < s.size) = false ∨ decide (65536 < s.size) = true := by
      rcases hs with h | h
      · exact .inl (decide_eq_false (by omega))
      · exact .inr (decide_eq_true h)
    rcases hs with hs | hs
    all_goals
      go_enter Tryd.func4, Tryd.ntmps4
      go_wp2_with fail
      refine (HR.out _).mono ?_
      rintro e w1 ⟨v1, rfl, hown1, hb1⟩
      obtain ⟨A, c, rfl, hA⟩ := own_msl hown1
      clear hown1
      go_wp2_with fail
      go_loopw [6] (fun i wr => ∃ k : Nat, k ≤ 2 ∧ i = .int .i64 k ∧ Below w1.heap.size w1 wr) (fun i _ => 2 - (intOf i).toNat)
      case atStart => exact ⟨0, by omega, rfl, Below.refl _ _⟩
      case round =>
        obtain ⟨k, hk, rfl, hbw⟩ := hrel
        obtain ⟨wo, rfl⟩ : ∃ wo : World, wo = wr := ⟨_, rfl⟩
        by_cases hlt : k < 2
        · go_wp2_with fail
          refine (HL.out _ ((hv.step hb1).step hbw)).mono ?_
          rintro e w2 ⟨v2, rfl, hown2, hb2⟩
          have hA2 := (hA.below hbw).below ((hb2.mono (Nat.le_refl _)))
          by_cases h0 : zs = []
          · subst h0
            obtain ⟨B, c2, rfl, hB⟩ := own_msl hown2
            go_wp2_with fail
            refine (told_any [] B c2 _ (by simp) hB).mono ?_
            rintro e w3 ⟨v3, rfl, hown3, hb3⟩
            obtain ⟨C, c3, rfl, hC⟩ := own_msl hown3
            go_wp2_with fail
            refine (same_places [] C A c3 c _ (by simp) hC (Msl.nil _ _)).mono ?_
            rintro e w4 ⟨rfl, hb4⟩
            have hx := hbw.trans ((hb2.trans ((hb3.trans (hb4.mono hb3.size)).mono hb2.size)).mono hbw.size)
            clear hown2 hown3 hB hC hb2 hb3 hb4
            go_wp2_with fail
            go_loopw [10] (fun i wq => i = .int .i64 0 ∧ wq = w4) (fun _ _ => 0)
            case atStart => exact ⟨rfl, rfl⟩
            case round =>
              obtain ⟨rfl, rfl⟩ := hrel
              go_wp2_with fail
              go_roundw
              case rel =>
                repeat (apply Exists.intro)
                exact ⟨⟨k + 1, by omega, by go_num, hx⟩, rfl⟩
              case measure => simp [intOf]; omega
          · have hp : 0 < zs.length := by
              rcases Nat.eq_zero_or_pos zs.length with h | h
              · exact absurd (List.length_eq_zero_iff.1 h) h0
              · exact h
            obtain ⟨g, cap, rfl, hg⟩ := hown2.form hp
            obtain ⟨B, c2, hvB, hB⟩ := own_msl hown2
            obtain ⟨rfl, rfl⟩ : B = some ⟨g, 0, none⟩ ∧ c2 = cap := by injection hvB with q1 q2 q3; exact ⟨q1.symm, q3.symm⟩
            clear hvB
            go_wp2_with fail
            refine (told_any zs _ c2 _ (by omega) hB).mono ?_
            rintro e w3 ⟨v3, rfl, hown3, hb3⟩
            obtain ⟨C, c3, rfl, hC⟩ := own_msl hown3
            go_wp2_with fail
            refine (same_places zs C A c3 c _ (by omega) hC (hA2.below hb3)).mono ?_
            rintro e w4 ⟨rfl, hb4⟩
            have hx34 := hb3.trans (hb4.mono hb3.size)
            have hown4 := own_below hown2 hx34
            have hx := hbw.trans ((hb2.trans (hx34.mono hb2.size)).mono hbw.size)
            have hgB : w1.heap.size ≤ g := Nat.le_trans hbw.size hg.1
            clear hown2 hown3 hB hC hb2 hb3 hb4 hA2 hx34 hg
            go_wp2_with fail
            go_loopw [10] (fun i wq => ∃ (j : Nat) (xs : List Value), j ≤ zs.length ∧ i = .int .i64 j ∧ wq.ownsRow wo.heap.size 24 5 (.slice (some ⟨g, 0, none⟩) zs.length c2) zs.length xs ∧ Below w1.heap.size w1 wq) (fun i _ => zs.length - (intOf i).toNat)
            case atStart => exact ⟨0, _, Nat.zero_le _, rfl, hown4, hx⟩
            case round =>
              obtain ⟨j, xs, hj, rfl, hownj, hbj⟩ := hrel
              by_cases hjt : j < zs.length
              · have hxl := hownj.1
                have cl : ∀ i, i < 5 → ∃ u, wr.cell? ⟨g, j * 5 + i, none⟩ = some u := fun i hi => ⟨xs[j * 5 + i]'(by omega), (hownj.cellAt (j * 5 + i) (by omega)).trans (List.getElem?_eq_getElem _)⟩
                obtain ⟨u0, c0⟩ := cl 0 (by omega)
                obtain ⟨u1, c1⟩ := cl 1 (by omega)
                obtain ⟨u2, c2⟩ := cl 2 (by omega)
                obtain ⟨u3, c3⟩ := cl 3 (by omega)
                obtain ⟨u4, c4⟩ := cl 4 (by omega)
                have f0 := hownj.frozenAt (j * 5 + 0)
                have f1 := hownj.frozenAt (j * 5 + 1)
                have f2 := hownj.frozenAt (j * 5 + 2)
                have f3 := hownj.frozenAt (j * 5 + 3)
                have f4 := hownj.frozenAt (j * 5 + 4)
                have hst := ((((hownj.stored (j * 5 + 0) (.int .u8 0)).1.stored (j * 5 + 1) (.int .i64 0)).1.stored (j * 5 + 2) (.int .i64 0)).1.stored (j * 5 + 3) (.int .i64 0)).1.stored (j * 5 + 4) (.string ⟨#[]⟩)
                have HST := Lib.hid hst.1
                have HB5 := Lib.hid (((((hbj.setCell (p := ⟨g, j * 5, none⟩) hgB (.int .u8 0)).setCell (p := ⟨g, j * 5 + 1, none⟩) hgB (.int .i64 0)).setCell (p := ⟨g, j * 5 + 2, none⟩) hgB (.int .i64 0)).setCell (p := ⟨g, j * 5 + 3, none⟩) hgB (.int .i64 0)).setCell (p := ⟨g, j * 5 + 4, none⟩) hgB (.string ⟨#[]⟩))
                simp only [Nat.add_zero] at c0 f0 HST
                have i0 : (0 : Int) ≤ (j : Int) := by omega
                have i1 : (j : Int) < (zs.length : Int) := by omega
                clear hst hownj hbj cl hxl hx hown4
                go_wp2_with fail
                go_roundw
                case rel => exact ⟨j + 1, _, by omega, by go_num, HST.out, HB5.out⟩
                case measure => simp [intOf]; omega
              · obtain rfl : j = zs.length := by omega
                go_wp2_with fail
                go_roundw
                case rel => exact ⟨k + 1, by omega, by go_num, hbj⟩
                case measure => simp [intOf]; omega
        · obtain rfl : k = 2 := by omega
          go_wp2_with fail
          refine (awake_any _ ((hv.step hb1).step hbw)).mono ?_
          rintro e w5 ⟨rfl, hb5⟩
          have HX := Lib.hid (hb1.trans ((hbw.trans (hb5.mono hbw.size)).mono hb1.size))
          go_wp2_with fail
          go_ret
          exact ⟨rfl, HX.out⟩
end Go.Proofs.YtckmhbgpaiocbaaDoor
