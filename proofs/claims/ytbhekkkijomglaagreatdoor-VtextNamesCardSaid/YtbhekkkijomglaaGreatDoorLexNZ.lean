/- Put together: LexN, Idx. -/
import Derived.Test.YtbhekkkijomglaaGreatDoorPlain8Z
import Derived.Test.YtbhekkkijomglaaGreatDoorLexW1
import Derived.Lib.IndexAny
import Derived.Lib.SlTrimSet
import Derived.Laws.RangeAny
import Derived.Laws.Runes
import Derived.Deep.LoopGhost
import Derived.WalkMore
namespace Go.Proofs.YtbhekkkijomglaaGreatDoor
/-! Where the next mark of a text begins and ends, in plain Lean. No program in sight. -/
section
open Go

def stopB (b : UInt8) : Bool := blankB b || brB b
/-- How many blanks stand ahead. -/
def skipN (l : List UInt8) : Nat := (l.takeWhile blankB).length
/-- How long the run is with which a text begins. -/
def runLen : List UInt8 → Nat
  | [] => 0
  | b :: r => if stopB b = true then 1 else ((b :: r).takeWhile fun x => !stopB x).length

/-- kind, at, end, number, string; the place; the error. -/
abbrev NextR := (Nat × Nat × Nat × Int × List UInt8) × Nat × Nat
def noMark : Nat × Nat × Nat × Int × List UInt8 := (0, 0, 0, 0, [])
/-- What Next tells from place a on, where blanks are skipped: of the text's rest. -/
def ofGot (a m : Nat) (g : Got) : NextR := if g.2 = 0 then ((g.1.1, a, a + m, g.1.2.1, g.1.2.2), 0, 0) else (noMark, a, g.2)
def fromRun (a : Nat) (r : List UInt8) : NextR := ofGot a (runLen r) (lexRun (r.take (runLen r)))
def fromRest (a : Nat) (r : List UInt8) : NextR :=
  if r.dropWhile blankB = [] then ((10, a + skipN r, a + skipN r, 0, []), 0, 0) else fromRun (a + skipN r) (r.dropWhile blankB)
def lexNext (l : List UInt8) (at_ : Int) : NextR :=
  if at_ < 0 ∨ (l.length : Int) < at_ then (noMark, 0, 1) else fromRest at_.toNat (l.drop at_.toNat)

theorem takeWhile_le (f : UInt8 → Bool) (l : List UInt8) : (l.takeWhile f).length ≤ l.length := (List.takeWhile_sublist f).length_le
theorem runLen_le (l : List UInt8) : runLen l ≤ l.length := by
  cases l with
  | nil => exact Nat.le_refl _
  | cons b r =>
    unfold runLen
    by_cases h : stopB b = true
    · simp [h]
    · simp only [h, if_false, Bool.false_eq_true]; exact takeWhile_le _ _
theorem runLen_pos (b : UInt8) (r : List UInt8) : 0 < runLen (b :: r) := by
  unfold runLen
  by_cases h : stopB b = true
  · simp [h]
  · simp [h]
theorem skipN_le (l : List UInt8) : skipN l ≤ l.length := takeWhile_le _ _
theorem skip_drop (l : List UInt8) : l.dropWhile blankB = l.drop (skipN l) := by
  unfold skipN
  induction l with
  | nil => rfl
  | cons b r ih => by_cases h : blankB b = true <;> simp [h, ih]

theorem index_stop (f : UInt8 → Bool) (cs : List UInt8) (hf : ∀ b, cs.contains b = f b) (l : List UInt8) :
    Lib.indexAny l cs = if (l.takeWhile fun x => !f x).length = l.length then -1 else ((l.takeWhile fun x => !f x).length : Int) := by
  induction l with
  | nil => rfl
  | cons b r ih =>
    rw [Lib.indexAny, hf]
    by_cases h : f b = true
    · simp [h]
    · have h' : f b = false := by simpa using h
      rw [if_neg (by simp [h']), ih]
      have hle := takeWhile_le (fun x => !f x) r
      by_cases h2 : (r.takeWhile fun x => !f x).length = r.length
      · simp [h', h2]
      · have h3 : ((((r.takeWhile fun x => !f x).length : Nat) : Int) == -1) = false := beq_eq_false_iff_ne.2 (by omega)
        simp [h', h2, h3]

theorem stop_contains (b : UInt8) : ([40, 41, 91, 93, 60, 62, 32, 10] : List UInt8).contains b = stopB b := by
  unfold stopB blankB brB brK
  by_cases h1 : b = 40
  · subst h1; rfl
  by_cases h2 : b = 41
  · subst h2; rfl
  by_cases h3 : b = 91
  · subst h3; rfl
  by_cases h4 : b = 93
  · subst h4; rfl
  by_cases h5 : b = 60
  · subst h5; rfl
  by_cases h6 : b = 62
  · subst h6; rfl
  by_cases h7 : b = 32
  · subst h7; rfl
  by_cases h8 : b = 10
  · subst h8; rfl
  simp [h1, h2, h3, h4, h5, h6, h7, h8]

theorem blank_contains (b : UInt8) : ([32, 10] : List UInt8).contains b = blankB b := by
  unfold blankB
  by_cases h7 : b = 32
  · subst h7; rfl
  by_cases h8 : b = 10
  · subst h8; rfl
  simp [h7, h8]

/-- The run's length by what IndexAny tells. -/
theorem runLen_index (l : List UInt8) (h : l ≠ []) :
    let n := Lib.indexAny l [40, 41, 91, 93, 60, 62, 32, 10]
    (n < 0 → runLen l = l.length) ∧ (n = 0 → runLen l = 1) ∧ (0 < n → (runLen l : Int) = n) := by
  have e := index_stop stopB _ stop_contains l
  cases l with
  | nil => exact absurd rfl h
  | cons b r =>
    simp only [e]
    unfold runLen
    by_cases hb : stopB b = true
    · simp [hb]
    · simp only [hb, if_false, Bool.false_eq_true]
      split
      · rename_i h2
        exact ⟨fun _ => h2, fun h => by omega, fun h => by omega⟩
      · refine ⟨fun h => by omega, fun h => ?_, fun h => rfl⟩
        have hb' : stopB b = false := by simpa using hb
        simp [hb'] at h
        omega
theorem trimLeft_skip (l : List UInt8) : Lib.trimLeftS l [32, 10] = l.drop (skipN l) := by
  rw [← skip_drop]
  unfold Lib.trimLeftS
  congr 1
  funext b
  exact blank_contains b

theorem lexNext_out (l : List UInt8) (i : Int) (h : i < 0 ∨ (l.length : Int) < i) : lexNext l i = (noMark, 0, 1) := by rw [lexNext, if_pos h]
theorem lexNext_in (l : List UInt8) (a : Nat) (h : a ≤ l.length) : lexNext l a = fromRest a (l.drop a) := by
  rw [lexNext, if_neg (by omega), Int.toNat_natCast]
theorem fromRest_end (a : Nat) (r : List UInt8) (h : skipN r = r.length) : fromRest a r = ((10, a + r.length, a + r.length, 0, []), 0, 0) := by
  rw [fromRest, skip_drop, h, List.drop_length, if_pos rfl]
theorem fromRest_run (a : Nat) (r : List UInt8) (h : skipN r < r.length) : fromRest a r = fromRun (a + skipN r) (r.drop (skipN r)) := by
  rw [fromRest, skip_drop, if_neg]
  intro e
  have := congrArg List.length e
  simp at this
  omega
end

/-! strings.IndexAny at lex's constant, over whatever bytes. -/
section
open Go.RowKit

/-- The brackets, and the blanks. -/
def stops : ByteArray := ⟨#[40, 41, 91, 93, 60, 62, 32, 10]⟩
theorem stops_list : stops.data.toList = [40, 41, 91, 93, 60, 62, 32, 10] := rfl
theorem stops_size : stops.size = 8 := rfl

set_option maxRecDepth 1000000 in
set_option maxHeartbeats 1000000 in
theorem rune_err (w : World) : Calls Tryz.prog 108 #[.string stops, .int .i32 65533] w fun e w' => e = .returned (.int .i64 (-1)) ∧ Below w.heap.size w w' := by
  have hsz := stops_size
  have hasc : ∀ (i : Nat) (h : i < stops.size), (stops[i]'h).toNat < 128 := by decide
  have HS := Lib.hid hasc; clear hasc
  generalize stops = T at *
  have b0 : ∀ o, Below w.heap.size w (w.alloc o) := fun o => (Below.refl w.heap.size w).alloc (Nat.le_refl _) o
  have HB := Lib.hid b0; clear b0
  go_enter Tryz.func108, Tryz.ntmps108
  go_wp2_with fail
  go_loopg [5, 6] 8 (fun g _ _ wx => ∃ i : Nat, i + g = 8 ∧ wx = w.iter T i)
  case atStart => exact ⟨0, by omega, rfl⟩
  case round =>
    obtain ⟨i, hig, rfl⟩ := hrel
    cases gk with
    | zero =>
      have hnx := fun ty => run_next_end (P := Tryz.prog) w T i ty (by omega)
      go_wp2
      go_ret
      exact ⟨rfl, HB.out _⟩
    | succ g =>
      have hi : i < T.size := by omega
      have h1 := HS.out i hi
      have hnx := fun ty => run_next_ascii (P := Tryz.prog) w T i ty hi h1
      have hne : (((T[i]'hi).toNat : Int) == 65533) = false := beq_eq_false_iff_ne.2 (by omega)
      go_wp2
      go_roundg g
      case measure => omega
      case rel => exact ⟨i + 1, by omega, rfl⟩

theorem index_none (l : List UInt8) (c : UInt8) (h : ∀ b ∈ l, b ≠ c) : Lib.indexByte l c = -1 := by
  induction l with
  | nil => rfl
  | cons b r ih =>
    have hb : (b == c) = false := beq_eq_false_iff_ne.2 (h b (by simp))
    have hr := ih (fun x hx => h x (by simp [hx]))
    simp [Lib.indexByte, hb, hr]

set_option maxRecDepth 1000000 in
set_option maxHeartbeats 1000000 in
theorem rune_high (r : Int) (h1 : 128 ≤ r) (h2 : r ≤ 1114111) (h3 : r ≠ 65533) (hv : Utf8.valid r = true) (w : World) : Calls Tryz.prog 108 #[.string stops, .int .i32 r] w fun e w' => e = .returned (.int .i64 (-1)) ∧ Below w.heap.size w w' := by
  obtain ⟨e1, e2, e3⟩ := encode_facts r hv h1
  have hvr : Lib.validRune r = true := by rw [Utf8.valid] at hv; unfold Lib.validRune; simp only [Bool.or_eq_true, Bool.and_eq_true, decide_eq_true_eq] at hv ⊢; omega
  have hne : (r == 65533) = false := beq_eq_false_iff_ne.2 h3
  have hlt : ¬ r < 128 := by omega
  have hsz := stops_size
  have hasc : ∀ b ∈ stops.data.toList, b.toNat < 128 := by decide
  generalize hE : Utf8.encode r = E at *
  have HS := Lib.hid hasc; clear hasc
  have HV := Lib.hid hvr; clear hvr hv
  generalize stops = T at *
  have h0 : 0 < T.size := by omega
  go_enter Tryz.func108, Tryz.ntmps108
  go_wp2_with fail
  refine (Tryz.utf8_ValidRune r _).mono ?_
  rintro e w' ⟨rfl, hw⟩
  subst hw
  rw [HV.out]
  go_wp2_with fail
  go_step3
  go_wp2_with fail
  obtain ⟨m, hEm⟩ : ∃ m : Nat, E.size = m + 1 := ⟨E.size - 1, by omega⟩
  have hz : (E.size : Int) - 1 = (m : Int) := by omega
  have hm : m < E.size := by omega
  have hm2 : m < T.size := by omega
  have hm8 : m < 8 := by omega
  have hE : 128 ≤ (E[m]'hm).toNat := by
    have h := e3 (show E.size - 1 < E.size by omega)
    have h9 : E.size - 1 = m := by omega
    simpa [h9] using h
  have hT : (T[m]'hm2).toNat < 128 := HS.out _ (by simp [ByteArray.getElem_eq_getElem_data])
  have i6 : (((T[m]'hm2).toNat : Int) != ((E[m]'hm).toNat : Int)) = true := bne_iff_ne.2 (by omega)
  have hI : ∀ (W : World), Calls Tryz.prog 122 #[.string (T.extract (m + 1) 8), .int .u8 ((E[m]'hm).toNat : Int)] W fun e w' => e = .returned (.int .i64 (-1)) ∧ w' = W := fun W => by
    have h := Tryz.strings_IndexByte (T.extract (m + 1) 8) ((E[m]'hm).toNat : Int) W
    rw [index_none _ _ (fun b hb hbc => by
      have := HS.out b (mem_extract hb)
      rw [hbc] at this
      simp at this
      omega)] at h
    exact h
  have HI := Lib.hid hI; clear hI
  have i4 : (m : Int) < (E.size : Int) := by omega
  have HEm := Lib.hid hEm; clear hEm
  have i5 : IntKind.i64.wrap ((m : Int) + 1) = ((m + 1 : Nat) : Int) := by rw [IntKind.wrap_i64] <;> omega
  have i7 : ((m + 1 : Nat) : Int) ≤ 8 := by omega
  have i8 : (0 : Int) ≤ ((m + 1 : Nat) : Int) := by omega
  generalize hM : m + 1 = M at *
  have e3' := Lib.hid e3; clear e3
  refine wp_loop_rounds 1 ?_
  rw [rounds_succ]
  go_wp2_with fail
  go_step3
  refine wp_seq ?_
  refine wp_seq ?_
  go_quiet (fail)
  go_wp2_with fail
  go_quiet ((go_at_call 122; exact (HI.out _).mono fun _ _ h => ⟨h.1, _, h.2⟩))
  go_wp2_with fail
  rw [Exit.noGoto_ret]
  dsimp only [Exit.inBlock, Exit.then, Exit.noGoto]
  go_ret
  exact ⟨rfl, below_drewN (Below.refl _ _) _⟩
end
end Go.Proofs.YtbhekkkijomglaaGreatDoor
