/- The statement VtextBack, put together. -/
import Derived.Test.YtbhekkkijomglaaGreatDoorBackV
namespace Go.Proofs.YtbhekkkijomglaaGreatDoor
open Go.RowKit

theorem read_txt (x : V) (hc : x.check = 0) (hl : x.text.length ≤ 65536) : ∀ W, Env W → ∃ m, Calls Tryz.prog 17 #[.string (bs x.text)] W (RPost (.ok x 0 m) W) := fun W hW => by
  obtain ⟨m, hm⟩ := read_text hc hl
  have h := read_any (bs x.text) W (by rw [bs_size]; omega) hW
  rw [bs_list, hm] at h
  exact ⟨m, h⟩
theorem show_lit (x : V) (tx : List UInt8) (er : Nat) (h : showV x = (tx, er)) (A : Option Addr) (c : Nat) (W : World) (hv : Env W) (hV : Vsl W W.heap.size A x.l) (hsz : x.size < 1000000) :
    Calls Tryz.prog 13 #[.agg #[.int .u8 x.k, .int .i64 x.n, .slice A x.l.length c]] W fun e w' => e = .returned (.tuple #[.string (bs tx), .int .i64 (er : Nat)]) ∧ Below W.heap.size W w' := by
  have h2 := vshow_any x A c W hv hV hsz
  rw [h] at h2
  exact h2
theorem back_row (x : V) (A : Option Addr) (c : Nat) (s : ByteArray) (w : World) (hv : Env w) (hV : Vsl w w.heap.size A x.l) (hF : x.Fits) (_ : s.size ≤ 140737488351232) :
    Calls Tryz.prog 9 #[.agg #[.int .u8 x.k, .int .i64 x.n, .slice A x.l.length c], .string s] w fun e w' => e = .returned (.bool true) ∧ Below w.heap.size w w' := by
  by_cases hlong : 6000 ≤ V.weighs [x] 0 6000
  · exact back_long x A c s w hv hV hF hlong
  by_cases h20 : 20000 < s.size
  · exact back_wide x A c s w hv hV hF hlong h20
  have hsz : x.size < 6000 := by
    have h := weighs_size [x] 0 6000 (by omega)
    rw [V.sizes, V.sizes] at h
    omega
  have hlen : s.data.toList.length = s.size := by simp
  have hR := fun W hW => read_any s W (by omega) hW
  obtain ⟨⟨tx, er⟩, hsh⟩ : ∃ q, showV x = q := ⟨_, rfl⟩
  have hSh := fun W (hW : Pt w W x A c) => show_lit x tx er hsh A c W hW.e hW.v (by omega)
  have hMy := fun W (hW : Pt w W x A c) => may_any x A c W hW.v (by omega)
  cases hz : readV s.data.toList with
  | bad p q =>
    rw [hz] at hR
    by_cases her : er = 0
    · subst her
      obtain ⟨hc0, rfl, htl⟩ := showV_ok hsh
      exact back_okbad x A c s w hv hV hF hlong hsz (by omega) (bs x.text) hSh (by rw [bs_size]; exact htl) (read_txt x hc0 htl) p q (readV_why hz) hR
    · have htx : tx = [] ∧ (x.check = 0 → er = 5) := by
        unfold showV at hsh
        by_cases h1 : x.check ≠ 0
        · rw [if_pos h1] at hsh; cases hsh; exact ⟨rfl, fun h => absurd h h1⟩
        rw [if_neg h1] at hsh
        by_cases h2 : 65536 < x.text.length
        · rw [if_pos h2] at hsh; cases hsh; exact ⟨rfl, fun _ => rfl⟩
        · rw [if_neg h2] at hsh; cases hsh; exact absurd rfl her
      obtain ⟨rfl, h5⟩ := htx
      exact back_nobad x A c s w hv hV hF hlong hsz (by omega) (bs []) er her hSh (by rw [Lib.toList_data, bs_list]; rfl) _ (fun h => h5 (by have := beq_iff_eq.1 h; omega)) hMy p q (readV_why hz) hR
  | ok y a m =>
    have ha := (read_ok hz).1
    subst ha
    rw [hz] at hR
    obtain ⟨hyc, hyl⟩ := read_back (by omega) hz
    have hys := (check_first hyc).2.2
    have hS2 := fun W A2 c2 g (hW : Yt w W y A2 c2 g) => show_lit y y.text 0 (showV_of hyc hyl) A2 c2 W hW.e hW.v (by omega)
    have hM2 : ∀ W A2 c2 g, Yt w W y A2 c2 g → Calls Tryz.prog 25 #[.agg #[.int .u8 y.k, .int .i64 y.n, .slice A2 y.l.length c2]] W fun e w' => e = .returned (.bool true) ∧ Below W.heap.size W w' := fun W A2 c2 g hW => by
      have h := may_any y A2 c2 W hW.v (by omega)
      rw [hyc] at h
      exact h
    by_cases her : er = 0
    · subst her
      obtain ⟨hc0, rfl, htl⟩ := showV_ok hsh
      exact back_okok x A c s w hv hV hF hlong hsz (by omega) (bs x.text) hSh (by rw [bs_size]; exact htl) (read_txt x hc0 htl) y hys (bs y.text) (fun W hW => ⟨m, hR W hW⟩) hS2 (read_txt y hyc hyl) hM2
    · have htx : tx = [] ∧ (x.check = 0 → er = 5) := by
        unfold showV at hsh
        by_cases h1 : x.check ≠ 0
        · rw [if_pos h1] at hsh; cases hsh; exact ⟨rfl, fun h => absurd h h1⟩
        rw [if_neg h1] at hsh
        by_cases h2 : 65536 < x.text.length
        · rw [if_pos h2] at hsh; cases hsh; exact ⟨rfl, fun _ => rfl⟩
        · rw [if_neg h2] at hsh; cases hsh; exact absurd rfl her
      obtain ⟨rfl, h5⟩ := htx
      exact back_nook x A c s w hv hV hF hlong hsz (by omega) (bs []) er her hSh (by rw [Lib.toList_data, bs_list]; rfl) _ (fun h => h5 (by have := beq_iff_eq.1 h; omega)) hMy y hys (bs y.text) (fun W hW => ⟨m, hR W hW⟩) hS2 (read_txt y hyc hyl) hM2
end Go.Proofs.YtbhekkkijomglaaGreatDoor
