/- strings.IndexAny at lex's constant, over whatever bytes. -/
import Derived.Test.YtcagfnllfenokaaDoorLexW1
import Derived.Laws.RangeAny
import Derived.Laws.Runes
import Derived.Lib.IndexAny
import Derived.Deep.LoopGhost
import Derived.WalkMore
namespace Go.Proofs.YtcagfnllfenokaaDoor
open Go.RowKit

/-- The brackets, and the blanks. -/
def stops : ByteArray := ⟨#[40, 41, 91, 93, 60, 62, 32, 10]⟩
theorem stops_list : stops.data.toList = [40, 41, 91, 93, 60, 62, 32, 10] := rfl
theorem stops_size : stops.size = 8 := rfl

set_option maxRecDepth 1000000 in
set_option maxHeartbeats 1000000 in
theorem rune_err (w : World) : Calls Tryd.prog 33 #[.string stops, .int .i32 65533] w fun e w' => e = .returned (.int .i64 (-1)) ∧ Below w.heap.size w w' := by
  have hsz := stops_size
  have hasc : ∀ (i : Nat) (h : i < stops.size), (stops[i]'h).toNat < 128 := by decide
  have HS := Lib.hid hasc; clear hasc
  generalize stops = T at *
  have b0 : ∀ o, Below w.heap.size w (w.alloc o) := fun o => (Below.refl w.heap.size w).alloc (Nat.le_refl _) o
  have HB := Lib.hid b0; clear b0
  go_enter Tryd.func33, Tryd.ntmps33
  go_wp2_with fail
  go_loopg [5, 6] 8 (fun g _ _ wx => ∃ i : Nat, i + g = 8 ∧ wx = w.iter T i)
  case atStart => exact ⟨0, by omega, rfl⟩
  case round =>
    obtain ⟨i, hig, rfl⟩ := hrel
    cases gk with
    | zero =>
      have hnx := fun ty => run_next_end (P := Tryd.prog) w T i ty (by omega)
      go_wp2
      go_ret
      exact ⟨rfl, HB.out _⟩
    | succ g =>
      have hi : i < T.size := by omega
      have h1 := HS.out i hi
      have hnx := fun ty => run_next_ascii (P := Tryd.prog) w T i ty hi h1
      have hne : (((T[i]'hi).toNat : Int) == 65533) = false := beq_eq_false_iff_ne.2 (by omega)
      go_wp2
      go_roundg g
      case measure => omega
      case rel => exact ⟨i + 1, by omega, rfl⟩

theorem index_none (l : List UInt8) (c : UInt8) (h : ∀ b ∈ l, b ≠ c) : Lib.indexByte l c = -1 := by
  induction l with
  | nil => rfl
  | cons b r ih =>
    have hb : (b == c) = false := beq_eq_false_iff_ne.2 (h b (by simp))
    have hr := ih (fun x hx => h x (by simp [hx]))
    simp [Lib.indexByte, hb, hr]

set_option maxRecDepth 1000000 in
set_option maxHeartbeats 1000000 in
theorem rune_high (r : Int) (h1 : 128 ≤ r) (h2 : r ≤ 1114111) (h3 : r ≠ 65533) (hv : Utf8.valid r = true) (w : World) : Calls Tryd.prog 33 #[.string stops, .int .i32 r] w fun e w' => e = .returned (.int .i64 (-1)) ∧ Below w.heap.size w w' := by
  obtain ⟨e1, e2, e3⟩ := encode_facts r hv h1
  have hvr : Lib.validRune r = true := by rw [Utf8.valid] at hv; unfold Lib.validRune; simp only [Bool.or_eq_true, Bool.and_eq_true, decide_eq_true_eq] at hv ⊢; omega
  have hne : (r == 65533) = false := beq_eq_false_iff_ne.2 h3
  have hlt : ¬ r < 128 := by omega
  have hsz := stops_size
  have hasc : ∀ b ∈ stops.data.toList, b.toNat < 128 := by decide
  generalize hE : Utf8.encode r = E at *
  have HS := Lib.hid hasc; clear hasc
  have HV := Lib.hid hvr; clear hvr hv
  generalize stops = T at *
  have h0 : 0 < T.size := by omega
  go_enter Tryd.func33, Tryd.ntmps33
  go_wp2_with fail
  refine (Tryd.utf8_ValidRune r _).mono ?_
  rintro e w' ⟨rfl, hw⟩
  subst hw
  rw [HV.out]
  go_wp2_with fail
  go_step3
  go_wp2_with fail
  obtain ⟨m, hEm⟩ : ∃ m : Nat, E.size = m + 1 := ⟨E.size - 1, by omega⟩
  have hz : (E.size : Int) - 1 = (m : Int) := by omega
  have hm : m < E.size := by omega
  have hm2 : m < T.size := by omega
  have hm8 : m < 8 := by omega
  have hE : 128 ≤ (E[m]'hm).toNat := by
    have h := e3 (show E.size - 1 < E.size by omega)
    have h9 : E.size - 1 = m := by omega
    simpa [h9] using h
  have hT : (T[m]'hm2).toNat < 128 := HS.out _ (by simp [ByteArray.getElem_eq_getElem_data])
  have i6 : (((T[m]'hm2).toNat : Int) != ((E[m]'hm).toNat : Int)) = true := bne_iff_ne.2 (by omega)
  have hI : ∀ (W : World), Calls Tryd.prog 45 #[.string (T.extract (m + 1) 8), .int .u8 ((E[m]'hm).toNat : Int)] W fun e w' => e = .returned (.int .i64 (-1)) ∧ w' = W := fun W => by
    have h := Tryd.strings_IndexByte (T.extract (m + 1) 8) ((E[m]'hm).toNat : Int) W
    rw [index_none _ _ (fun b hb hbc => by
      have := HS.out b (mem_extract hb)
      rw [hbc] at this
      simp at this
      omega)] at h
    exact h
  have HI := Lib.hid hI; clear hI
  have i4 : (m : Int) < (E.size : Int) := by omega
  have HEm := Lib.hid hEm; clear hEm
  have i5 : IntKind.i64.wrap ((m : Int) + 1) = ((m + 1 : Nat) : Int) := by rw [IntKind.wrap_i64] <;> omega
  have i7 : ((m + 1 : Nat) : Int) ≤ 8 := by omega
  have i8 : (0 : Int) ≤ ((m + 1 : Nat) : Int) := by omega
  generalize hM : m + 1 = M at *
  have e3' := Lib.hid e3; clear e3
  refine wp_loop_rounds 1 ?_
  rw [rounds_succ]
  go_wp2_with fail
  go_step3
  refine wp_seq ?_
  refine wp_seq ?_
  go_quiet (fail)
  go_wp2_with fail
  go_quiet ((go_at_call 45; exact (HI.out _).mono fun _ _ h => ⟨h.1, _, h.2⟩))
  go_wp2_with fail
  rw [Exit.noGoto_ret]
  dsimp only [Exit.inBlock, Exit.then, Exit.noGoto]
  go_ret
  exact ⟨rfl, below_drewN (Below.refl _ _) _⟩
end Go.Proofs.YtcagfnllfenokaaDoor
