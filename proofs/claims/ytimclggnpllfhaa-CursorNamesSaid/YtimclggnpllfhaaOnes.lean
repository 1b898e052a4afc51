/- A row of bytes of the call's own as a string; what 'ones' makes. -/
import Derived.Test.YtimclggnpllfhaaWalkC
import Derived.Deep.OwnRows
import Derived.Laws.BytesString
import Derived.Laws.Cells
namespace Go.Proofs.Ytimclggnpllfhaa
open Go.RowKit

theorem foldl_push (l : List UInt8) : ∀ r : ByteArray, (l.map (fun b => (b.toNat : Int))).foldl (fun r n => r.push (UInt8.ofNat n.toNat)) r = ⟨(r.data.toList ++ l).toArray⟩ := by
  induction l with
  | nil => intro r; simp
  | cons b l ih =>
    intro r
    rw [List.map_cons, List.foldl_cons, ih]
    apply ByteArray.ext
    apply Array.ext'
    simp [ByteArray.push]

theorem run_string_row {P : Program} (w : World) (src dst e t : TypeId) (hs : P.underlying src = some (.slice e)) (he : P.underlying e = some (.int .u8)) (hd : P.underlying dst = some .string)
    (g n cap : Nat) (f : Nat → UInt8) (h : w.rowIs g t n (fun i => .int .u8 (f i).toNat)) :
    (convert src dst (.slice (some ⟨g, 0, none⟩) n cap)).run P w = .ok (.string ⟨((List.range n).map f).toArray⟩) w := by
  rw [run_convert_bytes_string w src dst e _ _ _ hs he hd]
  have hl := run_loadCells (P := P) w ⟨g, 0, none⟩ n (fun i => Value.int .u8 (f i).toNat) (fun j hj => by
    have := h.cell hj
    have e : (⟨g, 0, none⟩ : Addr).add j = ⟨g, j, none⟩ := by unfold Addr.add; split <;> simp_all
    rw [e]; exact this)
  have e : (List.range n).map (fun i => Value.int .u8 (f i).toNat) = (((List.range n).map f).map (fun b => (b.toNat : Int))).map (Value.int .u8) := by simp [List.map_map, Function.comp_def]
  rw [e] at hl
  rw [run_bytesToString w _ n cap _ hl, foldl_push]
  simp

def onesB (n : Nat) : ByteArray := ⟨((List.range n).map (fun _ => (49 : UInt8))).toArray⟩
theorem onesB_size (n : Nat) : (onesB n).size = n := by simp [onesB, ByteArray.size]
theorem onesB_list (n : Nat) : (onesB n).data.toList = List.replicate n 49 := by
  simp only [onesB]
  apply List.ext_getElem
  · simp
  · intro i h1 h2; simp
def oneAt (k i : Nat) : UInt8 := if i < k then 49 else 0
def oneVal (k i : Nat) : Value := .int .u8 (oneAt k i).toNat

theorem info5 : (Try.prog.info? 5).map (fun i => (i.zero, i.size, i.bytes)) = some (some (.int .u8 0), 1, 1) := by kernel_rfl

theorem ones_any (n : Nat) (hn : n ≤ 4096) (w : World) :
    Calls Try.prog 19 #[.int .i64 n] w fun e w' => e = .returned (.string (onesB n)) ∧ Below w.heap.size w w' := by
  have hmk := fun W => run_make_row' (P := Try.prog) 50 5 (.int .u8 0) 1 Try.underlying50 info5 rfl .i64 .i64 n (by omega) (by omega) W
  obtain ⟨B, hB⟩ : ∃ B, B = w.heap.size := ⟨_, rfl⟩
  have hr0 : (w.alloc (.cells (madeCells #[.int .u8 0] n) 5)).rowIs B 5 n (oneVal 0) := by
    rw [hB]
    exact (World.rowIs_made w (.int .u8 0) n 5).congr (fun i hi => by simp [oneVal, oneAt])
  have b0 : Below B w (w.alloc (.cells (madeCells #[.int .u8 0] n) 5)) := by rw [hB]; exact (Below.refl _ _).alloc (Nat.le_refl _) _
  have HB := Lib.hid hB; clear hB
  go_enter Try.func19, Try.ntmps19
  go_wp2
  rw [show w.heap.size = B from HB.out.symm]
  generalize w.alloc (.cells (madeCells #[.int .u8 0] n) 5) = w0 at *
  clear hmk
  go_loopw [4] (fun i wr => ∃ k : Nat, k ≤ n ∧ i = .int .i64 k ∧ wr.rowIs B 5 n (oneVal k) ∧ Below B w wr) (fun i _ => n - (intOf i).toNat)
  case atStart => exact ⟨0, Nat.zero_le _, rfl, hr0, b0⟩
  case round =>
    obtain ⟨k, hk, rfl, hr, b⟩ := hrel
    clear hr0 b0
    by_cases hlt : k < n
    · have c0 := hr.cell hlt
      have f0 := hr.frozen k
      have hset : ∀ W : World, W.rowIs B 5 n (oneVal k) → (W.setCell ⟨B, k, none⟩ (.int .u8 49)).rowIs B 5 n (oneVal (k + 1)) := fun W h =>
        (h.set k (.int .u8 49)).congr (fun i hi => by
          by_cases hik : i = k
          · subst hik; simp [oneVal, oneAt]
          · by_cases hlk : i < k
            · simp [oneVal, oneAt, hik, hlk, show i < k + 1 by omega]
            · simp [oneVal, oneAt, hik, hlk, show ¬ i < k + 1 by omega])
      have hs1 := hset _ hr
      have b1 := b.setCell (p := ⟨B, k, none⟩) (Nat.le_refl B) (.int .u8 49)
      unfold oneVal at c0
      clear hset
      go_wp2
      go_roundw
      case rel => exact ⟨k + 1, by omega, by go_num, hs1, b1⟩
      case measure => simp [intOf]; omega
    · obtain rfl : k = n := by omega
      have hcv := run_string_row (P := Try.prog) wr 50 9 5 5 Try.underlying50 Try.underlying5 Try.underlying9 B k k (oneAt k) hr
      have e : (⟨((List.range k).map (oneAt k)).toArray⟩ : ByteArray) = onesB k := by
        unfold onesB
        congr 2
        apply List.map_congr_left
        intro i hi
        have : i < k := by simpa using hi
        simp [oneAt, this]
      rw [e] at hcv
      clear e
      go_wp2
      go_ret
      exact ⟨rfl, by rw [← HB.out]; exact b⟩
end Go.Proofs.Ytimclggnpllfhaa
