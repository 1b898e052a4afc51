/- The walk of moved: marks, so much farther on. -/
import Derived.Test.YtckmhbgpaiocbaaDoorSameW
namespace Go.Proofs.YtckmhbgpaiocbaaDoor
open Go.RowKit

def shiftZ (d : Int) (m : MarkZ) : MarkZ := (m.1, m.2.1 + d, m.2.2.1 + d, m.2.2.2.1, m.2.2.2.2)
theorem shiftZ_of (d : Nat) (m : MarkT) : shiftZ d (ofT m) = ofT (shiftM d m) := by
  unfold shiftZ ofT shiftM
  simp
theorem cellsZ_append (l r : List MarkZ) : cellsZ (l ++ r) = cellsZ l ++ cellsZ r := by unfold cellsZ; rw [List.flatMap_append]
theorem cellsZ_length (l : List MarkZ) : (cellsZ l).length = l.length * 5 := by
  induction l with
  | nil => rfl
  | cons m r ih =>
    have : cellsZ (m :: r) = zCells m ++ cellsZ r := rfl
    rw [this, List.length_append, ih, List.length_cons]
    show 5 + _ = _
    omega
/-- The row behind k rounds. -/
def movedTo (d : Int) (ms : List MarkZ) (k : Nat) : List MarkZ := (ms.take k).map (shiftZ d) ++ ms.drop k
theorem movedTo_zero (d : Int) (ms : List MarkZ) : movedTo d ms 0 = ms := by simp [movedTo]
theorem movedTo_all (d : Int) (ms : List MarkZ) : movedTo d ms ms.length = ms.map (shiftZ d) := by simp [movedTo]
theorem movedTo_length (d : Int) (ms : List MarkZ) (k : Nat) : (movedTo d ms k).length = ms.length := by
  unfold movedTo
  rw [List.length_append, List.length_map, List.length_take, List.length_drop]
  omega
theorem movedTo_at (d : Int) (ms : List MarkZ) (k : Nat) (m : MarkZ) (h : ms[k]? = some m) : (movedTo d ms k)[k]? = some m := by
  have hlt : k < ms.length := (List.getElem?_eq_some_iff.1 h).1
  unfold movedTo
  rw [List.getElem?_append_right (by rw [List.length_map, List.length_take]; omega), List.length_map, List.length_take, List.getElem?_drop, show k + (k - min k ms.length) = k by omega, h]
theorem movedTo_succ (d : Int) (ms : List MarkZ) (k : Nat) (m : MarkZ) (h : ms[k]? = some m) :
    movedTo d ms k = (ms.take k).map (shiftZ d) ++ m :: ms.drop (k + 1) ∧ movedTo d ms (k + 1) = (ms.take k).map (shiftZ d) ++ shiftZ d m :: ms.drop (k + 1) := by
  obtain ⟨hlt, hm⟩ := List.getElem?_eq_some_iff.1 h
  subst hm
  unfold movedTo
  refine ⟨by rw [← List.drop_eq_getElem_cons hlt], ?_⟩
  rw [take_snoc_z ms k _ h, List.map_append, List.append_assoc]
  rfl
/-- Two of a mark's cells, stored anew. -/
theorem cells_set (pre post : List MarkZ) (m : MarkZ) (d : Int) :
    ((cellsZ (pre ++ m :: post)).set (pre.length * 5 + 1) (.int .i64 (m.2.1 + d))).set (pre.length * 5 + 2) (.int .i64 (m.2.2.1 + d)) = cellsZ (pre ++ shiftZ d m :: post) := by
  have hl := cellsZ_length pre
  have e1 : cellsZ (pre ++ m :: post) = cellsZ pre ++ (zCells m ++ cellsZ post) := by rw [cellsZ_append]; rfl
  have e2 : cellsZ (pre ++ shiftZ d m :: post) = cellsZ pre ++ (zCells (shiftZ d m) ++ cellsZ post) := by rw [cellsZ_append]; rfl
  rw [e1, e2, ← hl, List.set_append_right _ _ (by omega), List.set_append_right _ _ (by omega)]
  congr 1
  rw [show (cellsZ pre).length + 1 - (cellsZ pre).length = 1 by omega, show (cellsZ pre).length + 2 - (cellsZ pre).length = 2 by omega]
  rfl
/-- Places that may be moved. -/
def PlaceOk (m : MarkZ) : Prop := 0 ≤ m.2.1 ∧ m.2.1 ≤ 1048576 ∧ 0 ≤ m.2.2.1 ∧ m.2.2.1 ≤ 1048576

set_option maxRecDepth 100000 in
set_option maxHeartbeats 1000000 in
theorem moved_any (ms : List MarkZ) (A : Option Addr) (c : Nat) (d : Int) (w : World) (hn : ms.length ≤ 1048576) (hA : Msl w A ms) (hd0 : 0 ≤ d) (hd1 : d ≤ 1048576) (hok : ∀ m ∈ ms, PlaceOk m) :
    Calls Tryd.prog 22 #[.slice A ms.length c, .int .i64 d] w fun e w' => ∃ v, e = .returned v ∧ w'.ownsRow w.heap.size 28 5 v ms.length (cellsZ (ms.map (shiftZ d))) ∧ Below w.heap.size w w' := by
  by_cases h0 : ms = []
  · subst h0
    go_enter Tryd.func22, Tryd.ntmps22
    go_wp2_with fail
    refine (told_any [] A c w (by simp) hA).mono ?_
    rintro e w1 ⟨v, rfl, hown, hbw⟩
    obtain ⟨A1, c1, rfl, _⟩ := own_msl hown
    go_wp2_with fail
    go_loopw [6] (fun i wr => i = .int .i64 0 ∧ wr = w1) (fun _ _ => 0)
    case atStart => exact ⟨rfl, rfl⟩
    case round =>
      obtain ⟨rfl, rfl⟩ := hrel
      go_wp2_with fail
      go_ret
      exact ⟨_, rfl, hown, hbw⟩
  · have hp : 0 < ms.length := by
      rcases Nat.eq_zero_or_pos ms.length with h | h
      · exact absurd (List.length_eq_zero_iff.1 h) h0
      · exact h
    have HOK := Lib.hid hok; clear hok
    go_enter Tryd.func22, Tryd.ntmps22
    go_wp2_with fail
    refine (told_any ms A c w hn hA).mono ?_
    rintro e w1 ⟨v, rfl, hown, hbw⟩
    obtain ⟨g, cap, rfl, hg⟩ := hown.form hp
    have HM := Lib.hid (movedTo_zero d ms)
    go_wp2_with fail
    go_loopw [6] (fun i wr => ∃ k : Nat, k ≤ ms.length ∧ i = .int .i64 k ∧ wr.ownsRow w.heap.size 28 5 (.slice (some ⟨g, 0, none⟩) ms.length cap) ms.length (cellsZ (movedTo d ms k)) ∧ Below w.heap.size w wr) (fun i _ => ms.length - (intOf i).toNat)
    case atStart => exact ⟨0, Nat.zero_le _, rfl, by rw [HM.out]; exact hown, hbw⟩
    case round =>
      obtain ⟨k, hk, rfl, hownk, hbwk⟩ := hrel
      by_cases hlt : k < ms.length
      · obtain ⟨m, hm⟩ : ∃ m, ms[k]? = some m := ⟨ms[k], List.getElem?_eq_getElem hlt⟩
        have hpo := HOK.out m (List.mem_of_getElem? hm)
        obtain ⟨s1, s2⟩ := movedTo_succ d ms k m hm
        have hat := movedTo_at d ms k m hm
        have c1 := (hownk.cellAt (k * 5 + 1) (by omega)).trans (cellsZ_at _ k 1 m hat (by decide))
        have c2 := (hownk.cellAt (k * 5 + 2) (by omega)).trans (cellsZ_at _ k 2 m hat (by decide))
        have f1 := hownk.frozenAt (k * 5 + 1)
        have f2 := hownk.frozenAt (k * 5 + 2)
        have hst := ((hownk.stored (k * 5 + 1) (.int .i64 (m.2.1 + d))).1.stored (k * 5 + 2) (.int .i64 (m.2.2.1 + d))).1
        rw [s1] at hst
        have hpre : ((ms.take k).map (shiftZ d)).length = k := by rw [List.length_map, List.length_take]; omega
        have hset := cells_set ((ms.take k).map (shiftZ d)) (ms.drop (k + 1)) m d
        rw [hpre] at hset
        rw [hset, ← s2] at hst
        have HST := Lib.hid hst
        clear hst hset s1 s2 hat hm hpre hownk HM hown
        obtain ⟨kk, a, e, n, l⟩ := m
        obtain ⟨q1, q2, q3, q4⟩ := hpo
        simp only [zCells] at c1 c2 HST q1 q2 q3 q4
        have c1' : wr.cell? ⟨g, k * 5 + 1, none⟩ = some (.int .i64 a) := c1
        have c2' : wr.cell? ⟨g, k * 5 + 2, none⟩ = some (.int .i64 e) := c2
        clear c1 c2
        have j0 : (0 : Int) ≤ (k : Int) := by omega
        have j1 : (k : Int) < (ms.length : Int) := by omega
        have HB := Lib.hid hbwk
        have hgB : w.heap.size ≤ g := by omega
        clear hbwk hbw
        go_wp2_with fail
        go_region
        all_goals
          go_wp2_with fail
          go_roundw
          case rel => exact ⟨k + 1, by omega, by go_num, HST.out, ((HB.out.setCell (p := ⟨g, _, none⟩) hgB _).setCell (p := ⟨g, _, none⟩) hgB _).drew⟩
          case measure => simp [intOf]; omega
      · obtain rfl : k = ms.length := by omega
        rw [movedTo_all] at hownk
        go_wp2_with fail
        go_ret
        exact ⟨_, rfl, hownk, hbwk⟩
end Go.Proofs.YtckmhbgpaiocbaaDoor
