/- The walk of the statement VtextFirst. -/
import Derived.Test.YtbhekkkijomglaaGreatDoorAwB
import Derived.Test.YtbhekkkijomglaaGreatDoorValPA
namespace Go.Proofs.YtbhekkkijomglaaGreatDoor
open Go.RowKit

theorem str_join (a b : ByteArray) : (a ++ (⟨#[32]⟩ : ByteArray) ++ b).data.toList = a.data.toList ++ 32 :: b.data.toList := by simp

set_option maxRecDepth 100000 in
set_option maxHeartbeats 4000000 in
theorem first_walk (s t : ByteArray) (w : World) (hv : Env w) (hs : s.size ≤ 140737488351232) (ht : t.size ≤ 140737488351232) :
    Calls Tryz.prog 7 #[.string s, .string t] w fun e w' => e = .returned (.bool true) ∧ Below w.heap.size w w' := by
  have HA := Lib.hid (fun W hW => awake_any W hW)
  have hsum : IntKind.i64.wrap ((s.size : Int) + (t.size : Int)) = (s.size : Int) + (t.size : Int) := IntWalk.i64_in _ ⟨by omega, by omega⟩
  by_cases hlong : 20000 < s.size + t.size
  · have h1 : (20000 : Int) < (s.size : Int) + (t.size : Int) := by omega
    clear hlong
    go_enter Tryz.func7, Tryz.ntmps7
    go_wp2_with fail
    refine (HA.out _ hv).mono ?_
    rintro e w1 ⟨rfl, hb1⟩
    have HX := Lib.hid hb1
    clear hb1
    go_wp2_with fail
    go_ret
    exact ⟨rfl, HX.out⟩
  · have h1 : ¬ (20000 : Int) < (s.size : Int) + (t.size : Int) := by omega
    have hR := fun W hW => read_any s W (by omega) hW
    have hj := str_join s t
    have hjs : (s ++ (⟨#[32]⟩ : ByteArray) ++ t).size = s.size + 1 + t.size := by simp; rfl
    have hR2 := fun W hW => read_any (s ++ (⟨#[32]⟩ : ByteArray) ++ t) W (by omega) hW
    rw [hj] at hR2
    have hfi := fun p e (h : readV s.data.toList = .bad p e) (he : e ≠ 4) => read_first (l := s.data.toList) (t := t.data.toList) (by simp; omega) h he
    have hwhy : ∀ p e, readV s.data.toList = .bad p e → e ≠ 0 := fun p e h => by
      unfold readV at h
      by_cases h5 : 65536 < s.data.toList.length
      · rw [if_pos h5] at h; cases h; decide
      rw [if_neg h5] at h
      cases hz : partV s.data.toList 0 with
      | bad p1 e1 => rw [hz] at h; cases h; exact partV_why hz
      | ok v a m =>
        rw [hz] at h
        change (if (nx s.data.toList a).2.2 ≠ 0 then PR.bad (nx s.data.toList a).2.1 (nx s.data.toList a).2.2 else if (nx s.data.toList a).1.1 ≠ 10 then PR.bad (nx s.data.toList a).1.2.1 6 else PR.ok v 0 m) = .bad p e at h
        by_cases h6 : (nx s.data.toList a).2.2 ≠ 0
        · rw [if_pos h6] at h; cases h; exact h6
        rw [if_neg h6] at h
        by_cases h7 : (nx s.data.toList a).1.1 ≠ 10
        · rw [if_pos h7] at h; cases h; decide
        · rw [if_neg h7] at h; cases h
    have HR2 := Lib.hid hR2
    clear hR2 hj hjs hlong hs ht
    cases hz : readV s.data.toList with
    | ok v a m =>
      rw [hz] at hR
      have HR := Lib.hid hR
      clear hR hfi hwhy hz
      go_enter Tryz.func7, Tryz.ntmps7
      go_wp2_with fail
      refine (HA.out _ hv).mono ?_
      rintro e w1 ⟨rfl, hb1⟩
      have HX := Lib.hid hb1
      clear hb1
      go_wp2_with fail
      refine (HR.out _ (hv.step HX.out)).mono ?_
      rintro e' w2 ⟨A, c, he, hb2, _⟩
      change e' = .returned (.tuple #[.agg #[.int .u8 v.k, .int .i64 v.n, .slice A v.l.length c], .int .i64 0, .int .i64 0]) at he
      subst he
      have HY := Lib.hid (HX.out.trans (hb2.mono HX.out.size))
      clear hb2
      go_wp2_with fail
      go_ret
      exact ⟨rfl, HY.out.alloc HY.out.size _⟩
    | bad p e =>
      rw [hz] at hR
      have he0 := hwhy p e hz
      have e1 : ((e : Int) == 0) = false := beq_eq_false_iff_ne.2 (by omega)
      have HR := Lib.hid hR
      by_cases h4 : e = 4
      · have e2 : ((e : Int) == 4) = true := beq_iff_eq.2 (by omega)
        clear hR hfi hwhy hz he0 h4
        go_enter Tryz.func7, Tryz.ntmps7
        go_wp2_with fail
        refine (HA.out _ hv).mono ?_
        rintro e' w1 ⟨rfl, hb1⟩
        have HX := Lib.hid hb1
        clear hb1
        go_wp2_with fail
        refine (HR.out _ (hv.step HX.out)).mono ?_
        rintro e' w2 ⟨rfl, hb2⟩
        have HY := Lib.hid (HX.out.trans (hb2.mono HX.out.size))
        clear hb2
        go_wp2_with fail
        go_ret
        exact ⟨rfl, HY.out.alloc HY.out.size _⟩
      · have e2 : ((e : Int) == 4) = false := beq_eq_false_iff_ne.2 (by omega)
        have hr := hfi p e hz h4
        have HR3 : Hid (∀ W, Env W → Calls Tryz.prog 17 #[.string (s ++ (⟨#[32]⟩ : ByteArray) ++ t)] W (RPost (.bad p e) W)) := fun W hW => by
          have h := HR2.out W hW
          rw [hr] at h
          exact h
        clear hR hfi hwhy hz he0 h4 hr HR2
        go_enter Tryz.func7, Tryz.ntmps7
        go_wp2_with fail
        refine (HA.out _ hv).mono ?_
        rintro e' w1 ⟨rfl, hb1⟩
        have HX := Lib.hid hb1
        clear hb1
        go_wp2_with fail
        refine (HR.out _ (hv.step HX.out)).mono ?_
        rintro e' w2 ⟨rfl, hb2⟩
        have HY := Lib.hid (HX.out.trans (hb2.mono HX.out.size))
        clear hb2
        go_wp2_with fail
        refine (HR3.out _ ((hv.step HY.out).alloc _)).mono ?_
        rintro e' w3 ⟨rfl, hb3⟩
        have HZ := Lib.hid ((HY.out.alloc HY.out.size _).trans (hb3.mono (by have := HY.out.size; simp; omega)))
        clear hb3
        go_wp2_with fail
        go_ret
        exact ⟨rfl, HZ.out.alloc HZ.out.size _⟩
end Go.Proofs.YtbhekkkijomglaaGreatDoor
