/- The runs of marks, put together, in plain Lean. No program in sight. -/
import Derived.Test.YtcagfnllfenokaaDoorLexS
import Derived.Lib.BitFns
namespace Go.Proofs.YtcagfnllfenokaaDoor
open Go

/-- A mark with places whatever. -/
abbrev MarkZ := Nat × Int × Int × Int × List UInt8
def ofT (m : MarkT) : MarkZ := (m.1, m.2.1, m.2.2.1, m.2.2.2.1, m.2.2.2.2)
def markShow (m : MarkZ) : List UInt8 × Nat := lexShow m.1 m.2.2.2.1 m.2.2.2.2
def zCells (m : MarkZ) : List Value := [.int .u8 m.1, .int .i64 m.2.1, .int .i64 m.2.2.1, .int .i64 m.2.2.2.1, .string (bs m.2.2.2.2)]
def cellsZ (ms : List MarkZ) : List Value := ms.flatMap zCells
theorem cellsZ_of (ms : List MarkT) : cellsZ (ms.map ofT) = cellsOf ms := by
  unfold cellsZ cellsOf
  rw [List.flatMap_map]
  rfl
theorem cellsZ_at : ∀ (ms : List MarkZ) (k j : Nat) (m : MarkZ), ms[k]? = some m → j < 5 → (cellsZ ms)[k * 5 + j]? = (zCells m)[j]?
  | [], k, j, m, h, _ => by simp at h
  | x :: r, 0, j, m, h, hj => by
    simp at h
    subst h
    show (zCells x ++ cellsZ r)[0 * 5 + j]? = _
    rw [List.getElem?_append_left (by show 0 * 5 + j < 5; omega), Nat.zero_mul, Nat.zero_add]
  | x :: r, k + 1, j, m, h, hj => by
    have ih := cellsZ_at r k j m (by simpa using h) hj
    show (zCells x ++ cellsZ r)[(k + 1) * 5 + j]? = _
    rw [List.getElem?_append_right (by show 5 ≤ (k + 1) * 5 + j; omega), ← ih]
    congr 1
    show (k + 1) * 5 + j - 5 = _
    omega
/-- Join from the k-th mark on, with what is written. -/
def joinGo : Nat → List UInt8 → List MarkZ → List UInt8 × Nat
  | _, acc, [] => if 65536 < acc.length then ([], 5) else (acc, 0)
  | k, acc, m :: r => if (markShow m).2 ≠ 0 then ([], (markShow m).2) else joinGo (k + 1) ((if 0 < k then acc ++ [32] else acc) ++ (markShow m).1) r
def lexJoin (ms : List MarkZ) : List UInt8 × Nat := joinGo 0 [] ms

theorem dec_len : ∀ (k u : Nat), u < 10 ^ (k + 1) → (Lib.decDigits u).length ≤ k + 1 := by
  intro k
  induction k with
  | zero =>
    intro u h
    rw [Lib.decDigits, dif_pos (by simpa using h)]
    simp
  | succ k ih =>
    intro u h
    rw [Lib.decDigits]
    split
    · simp
    · rw [List.length_append]
      have := ih (u / 10) (by rw [Nat.div_lt_iff_lt_mul (by decide)]; rw [Nat.pow_succ] at h; exact h)
      simp
      omega
theorem itoa_len (n : Int) (h0 : -9223372036854775808 ≤ n) (h1 : n ≤ 9223372036854775807) : (Lib.itoa n).length ≤ 21 := by
  unfold Lib.itoa
  split
  · have := dec_len 19 n.natAbs (Nat.lt_of_lt_of_le (by omega : _ < 100000000000000000000) (by decide))
    rw [List.length_cons]; omega
  · have := dec_len 19 n.toNat (Nat.lt_of_lt_of_le (by omega : _ < 100000000000000000000) (by decide))
    omega
theorem show_len (m : MarkZ) (h0 : -9223372036854775808 ≤ m.2.2.2.1) (h1 : m.2.2.2.1 ≤ 9223372036854775807) : (markShow m).1.length ≤ m.2.2.2.2.length + 21 := by
  have := itoa_len _ h0 h1
  unfold markShow lexShow
  split
  · simp
  · unfold showRun
    repeat' split
    all_goals simp
    all_goals omega
end Go.Proofs.YtcagfnllfenokaaDoor
