/- The walks of bits.odd, bits.Is. -/
import Derived.Test.YtcagfnllfenokaaDoorProg
import Derived.Test.YtcagfnllfenokaaDoorPlain8
import Derived.Test.YtcagfnllfenokaaDoorBase
import Derived.WalkSpells
import Derived.WalkLawsBesides
namespace Go.Proofs.YtcagfnllfenokaaDoor
open Go.RowKit

theorem odd_any (s : ByteArray) (w : World) (hs : s.size ≤ maxLen) :
    Calls Tryd.prog 29 #[.string s] w fun e w' => e = .returned (.bool (oddB s.data.toList)) ∧ w = w' := by
  unfold maxLen at hs
  go_enter Tryd.func29, Tryd.ntmps29
  go_wp2
  go_loop [6] (fun i => ∃ k : Nat, k ≤ s.size ∧ i = .int .i64 k ∧ (s.data.toList.take k).all bitB = true) (fun i => s.size - (intOf i).toNat)
  case atStart => exact ⟨0, Nat.zero_le _, rfl, rfl⟩
  case round =>
    obtain ⟨k, hk, rfl, hall⟩ := hrel
    have HA := Lib.hid hall; clear hall
    go_wp2
    · have hlt : k < s.size := by assumption
      have h48 : (s[k].toNat : Int) = 48 := by assumption
      go_round
      case rel => exact ⟨k + 1, by omega, by go_num, by rw [take_all_snoc s k hlt, HA.out, bitB_48 _ h48]; rfl⟩
      case measure => simp [intOf]; omega
    · have hlt : k < s.size := by assumption
      have hno : ((s[k].toNat : Int) != 48) = true ∧ ((s[k].toNat : Int) != 49) = true := by assumption
      go_ret
      exact ⟨ret_bool (oddB_of_bad s k hlt (bitB_no _ hno)).symm, rfl⟩
    · have hlt : k < s.size := by assumption
      have hor : ((s[k].toNat : Int) != 48) = false ∨ ((s[k].toNat : Int) != 49) = false := by assumption
      go_round
      case rel => exact ⟨k + 1, by omega, by go_num, by rw [take_all_snoc s k hlt, HA.out, bitB_or _ hor]; rfl⟩
      case measure => simp [intOf]; omega
    · have hge : ¬ k < s.size := by assumption
      obtain rfl : k = s.size := by omega
      go_ret
      exact ⟨ret_bool (oddB_of_all s HA.out).symm, rfl⟩

theorem is_any (s : ByteArray) (w : World) (hs : s.size ≤ maxLen) :
    Calls Tryd.prog 17 #[.string s] w fun e w' => e = .returned (.bool (isB s.data.toList)) ∧ w = w' := by
  have hs' := hs
  unfold maxLen at hs
  by_cases h : s.size ≤ 1024
  · go_enter Tryd.func17, Tryd.ntmps17
    go_wp2_with (go_at_call 29; refine (odd_any s _ hs').mono ?_; rintro e w' ⟨rfl, rfl⟩)
    go_ret
    exact ⟨by simp [isB, h], rfl⟩
  · go_enter Tryd.func17, Tryd.ntmps17
    go_wp2_with fail
    go_ret
    exact ⟨by simp [isB, h], rfl⟩

end Go.Proofs.YtcagfnllfenokaaDoor
