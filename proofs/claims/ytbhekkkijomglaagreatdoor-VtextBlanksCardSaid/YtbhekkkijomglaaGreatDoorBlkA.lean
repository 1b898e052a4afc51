/- Put together: TimesV, BlanksP, BlanksQ. -/
import Derived.Test.YtbhekkkijomglaaGreatDoorAwPA
import Derived.Test.YtbhekkkijomglaaGreatDoorAwB
import Derived.Test.YtbhekkkijomglaaGreatDoorValPA
import Derived.Test.YtbhekkkijomglaaGreatDoorVspM
import Derived.Lib.AppendStr
import Derived.OwnWalk
import Derived.Laws.BytesString
import Derived.Laws.BytesArg
namespace Go.Proofs.YtbhekkkijomglaaGreatDoor
/-! The walk of times: so many times a text. -/
section
open Go.RowKit

def repsL (l : List UInt8) : Nat → List UInt8
  | 0 => []
  | n + 1 => repsL l n ++ l
theorem repsL_length (l : List UInt8) (n : Nat) : (repsL l n).length = n * l.length := by
  induction n with
  | zero => simp [repsL]
  | succ n ih => rw [repsL, List.length_append, ih, Nat.succ_mul]
theorem repsL_one (c : UInt8) (n : Nat) : repsL [c] n = List.replicate n c := by
  induction n with
  | zero => rfl
  | succ n ih => rw [repsL, ih, List.replicate_succ']
theorem nums_str (l : List UInt8) : strOfNums (l.map fun x => (x.toNat : Int)) = bs l := by
  apply ByteArray.ext
  apply Array.toList_inj.1
  rw [strOfNums_data, bs_list, List.map_map]
  conv => rhs; rw [← List.map_id l]
  apply List.map_congr_left
  intro x _
  simp
/-- A row of bytes that is owned, as a text. -/
theorem conv_own {w : World} {B : Nat} {v : Value} {l : List UInt8} (h : w.ownsRow B 5 1 v l.length (Lib.byteCells l)) : (Go.convert 40 9 v).run Tryz.prog w = .ok (.string (bs l)) w := by
  rcases h.2 with ⟨e1, e2⟩ | ⟨g, cap, cur, rfl, _⟩
  · have : l = [] := List.eq_nil_of_length_eq_zero e2
    subst this
    subst e1
    rw [run_convert_bytes_string _ _ _ 5 _ _ _ Tryz.underlying40 Tryz.underlying5 Tryz.underlying9]
    simp [Conv.bytesToString]
    rfl
  · have hr := Reads.of_own h
    rw [← nums_str l]
    refine run_convert_bytes_arg w _ 5 Tryz.underlying40 Tryz.underlying5 g 0 l.length cap (l.map fun x => (x.toNat : Int)) (by simp) (fun i hi => ?_) 9 Tryz.underlying9
    obtain ⟨ad, he, _, hc⟩ := hr.2 (by omega)
    injection he with he
    subst he
    have h1 := hc i (.int .u8 (l[i].toNat : Int)) (by simp [Lib.byteCells, hi])
    have h2 : (⟨g, 0, none⟩ : Addr).add i = ⟨g, 0 + i, none⟩ := by
      unfold Addr.add
      split
      · rename_i q; subst q; rfl
      · rfl
    rw [h2] at h1
    rw [h1]
    simp [List.getD, hi]
set_option maxRecDepth 100000 in
set_option maxHeartbeats 4000000 in
theorem times_any (s : ByteArray) (n : Nat) (w : World) (hn : n ≤ 100000) (hs : s.size ≤ 1000) :
    Calls Tryz.prog 21 #[.string s, .int .i64 n] w fun e w' => e = .returned (.string (bs (repsL s.data.toList n))) ∧ Below w.heap.size w w' := by
  obtain ⟨i0, hi, hz0, hz1, hz2⟩ := info_parts (P := Tryz.prog) (e := 5) (z := .int .u8 0) (size := 1) (bytes := 1) (by kernel_rfl)
  have HU : Tryz.prog.underlying 40 = some (.slice 5) := by kernel_rfl
  have hmul : n * s.size ≤ 100000000 := by have := Nat.mul_le_mul hn hs; omega
  have hm0 : (0 : Int) ≤ (n : Int) * (s.size : Int) := by rw [← Int.natCast_mul]; omega
  have hm1 : (n : Int) * (s.size : Int) ≤ 100000000 := by rw [← Int.natCast_mul]; omega
  have hw : IntKind.i64.wrap ((n : Int) * (s.size : Int)) = (n : Int) * (s.size : Int) := IntWalk.i64_in _ ⟨by omega, by omega⟩
  have hwm : (n : Int) * (s.size : Int) = ((n * s.size : Nat) : Int) := by rw [Int.natCast_mul]
  have HM := Lib.hid (And.intro hmul hwm)
  clear hwm hmul hm0 hm1
  go_enter Tryz.func21, Tryz.ntmps21
  go_wp2_with (at_make; refine wpList_make_own _ rfl _ _ 40 rfl w.heap.size 5 i0 (.int .u8 0) 1 HU hi hz0 hz1 .i64 .i64 _ (n * s.size) rfl rfl HM.out.2 (by rw [hz2]; have := HM.out.1; omega) (by unfold maxLen; have := HM.out.1; omega) (Nat.le_refl _) ?_; intro w1 hown1 hgrow1; have HO := Lib.hid (And.intro hown1 (Below.grown (Below.refl _ _) hgrow1 (Nat.le_refl _) (fun k hk => by cases hk))); clear hown1 hgrow1)
  go_loopw [5, 6] (fun v i wr => ∃ q : Nat, q ≤ n ∧ i = .int .i64 q ∧ wr.ownsRow w.heap.size 5 1 v (q * s.size) (Lib.byteCells (repsL s.data.toList q)) ∧ Below w.heap.size w wr) (fun _ i _ => n - (intOf i).toNat)
  case atStart => exact ⟨0, Nat.zero_le _, rfl, by rw [Nat.zero_mul]; exact HO.out.1, HO.out.2⟩
  case round =>
    obtain ⟨q, hq, rfl, hown, hbw⟩ := hrel
    by_cases hlt : q < n
    · have hlt' : (q : Int) < (n : Int) := by omega
      have hq2 : q * s.size + s.size ≤ 100000000 := by
        have := Nat.mul_le_mul (show q + 1 ≤ 100000 by omega) hs
        rw [Nat.succ_mul] at this
        omega
      have HB := Lib.hid hbw
      clear hbw
      go_wp2_with (at_builtin; refine Lib.wpList_append_own_string _ rfl _ _ 40 9 rfl w.heap.size 5 i0 HU Tryz.underlying9 hi hz0 hz1 hz2 _ _ _ rfl hown s rfl (by unfold maxLen; omega) (by omega) HB.out.size ?_; intro v2 w2 hown2 hgrow2 _; have X := Lib.hid (And.intro hown2 (Below.grown HB.out hgrow2 HB.out.size (fun k hk => (hown.lt k hk).1))); clear hown2 hgrow2)
      go_roundw
      case rel => exact ⟨q + 1, by omega, by go_num, by
        have h := X.out.1
        rw [Lib.strCells_eq] at h
        rw [Nat.succ_mul, repsL]
        simpa [Lib.byteCells] using h, X.out.2⟩
      case measure => simp [intOf]; omega
    · obtain rfl : q = n := by omega
      have hl : (repsL s.data.toList q).length = q * s.size := by rw [repsL_length]; simp
      rw [← hl] at hown
      have hcv := conv_own hown
      have HB := Lib.hid hbw
      clear hbw hown
      go_wp2_with fail
      go_ret
      exact ⟨rfl, HB.out⟩
end

/-! What the walk of VtextBlanks leans on. -/
section
open Go.RowKit

theorem cellsOf_at : ∀ (ms : List MarkT) (k i : Nat) (m : MarkT), ms[k]? = some m → i < 5 → (cellsOf ms)[k * 5 + i]? = (markCells m)[i]? := by
  intro ms
  induction ms with
  | nil => intro k i m h; simp at h
  | cons x r ih =>
    intro k i m h hi
    have e : cellsOf (x :: r) = markCells x ++ cellsOf r := rfl
    rw [e]
    cases k with
    | zero =>
      simp at h
      subst h
      rw [Nat.zero_mul, Nat.zero_add, List.getElem?_append_left (by show i < 5; exact hi)]
    | succ k =>
      rw [List.getElem?_append_right (by show 5 ≤ _; omega), show (k + 1) * 5 + i - (markCells x).length = k * 5 + i by show (k + 1) * 5 + i - 5 = _; omega]
      exact ih k i m (by simpa using h) hi
theorem lexAll_marks {l : List UInt8} (h : l.length ≤ 65536) : lexAll l = marks 0 l := by
  unfold lexAll
  rw [if_neg (by omega)]
  exact marks_fuel (by omega)
/-- All, where the text is right. -/
theorem all_right (s : ByteArray) (xa : List MarkT) (hs : s.size ≤ 65536) (hx : marks 0 s.data.toList = (xa, 0, 0)) (W : World) (hv : Env W) :
    Calls Tryz.prog 26 #[.string s] W fun e w' => ∃ A c, e = .returned (.tuple #[.slice A xa.length c, .int .i64 0, .int .i64 0]) ∧ Below W.heap.size W w' ∧ ∀ k m, xa[k]? = some m → ∃ g, A = some ⟨g, 0, none⟩ ∧ w'.cell? ⟨g, k * 5 + 1, none⟩ = some (.int .i64 m.2.1) := by
  have h := all_any s W hs hv
  rw [lexAll_marks (by simpa using hs), hx] at h
  refine h.mono fun e w' ⟨v, h1, h2, h3⟩ => ?_
  have hsl : ∃ A c, v = .slice A xa.length c := by
    rcases h2.2 with ⟨e1, e2⟩ | ⟨g, cap, cur, e1, _⟩
    · have h0 : xa.length = 0 := e2
      exact ⟨none, 0, by rw [e1, h0]⟩
    · exact ⟨_, _, e1⟩
  obtain ⟨A, c, rfl⟩ := hsl
  refine ⟨A, c, h1, h3, fun k m hk => ?_⟩
  have hlt : k < xa.length := (List.getElem?_eq_some_iff.1 hk).1
  have hr := Reads.of_own h2
  obtain ⟨ad, rfl, _, hc⟩ := hr.2 (by show 0 < xa.length; omega)
  have hob : ∃ g, ad = ⟨g, 0, none⟩ := by
    rcases h2.2 with ⟨e1, e2⟩ | ⟨g, cap, cur, e1, _⟩
    · injection e1 with e1 _ _; cases e1
    · injection e1 with e1 _ _
      injection e1 with e1
      exact ⟨g, e1⟩
  obtain ⟨g, rfl⟩ := hob
  have h4 := hc (k * 5 + 1) _ (by rw [cellsOf_at xa k 1 m hk (by decide)]; rfl)
  rw [add_from] at h4
  exact ⟨g, rfl, h4⟩
/-- All, where it is not. -/
theorem all_wrong (s : ByteArray) (xa : List MarkT) (p e : Nat) (hs : s.size ≤ 65536) (hx : marks 0 s.data.toList = (xa, p, e)) (he : e ≠ 0) (W : World) (hv : Env W) :
    Calls Tryz.prog 26 #[.string s] W fun en w' => ∃ A n c, en = .returned (.tuple #[.slice A n c, .int .i64 p, .int .i64 e]) ∧ Below W.heap.size W w' := by
  have h := all_any s W hs hv
  rw [lexAll_marks (by simpa using hs), hx] at h
  refine h.mono fun en w' ⟨v, h1, h2, h3⟩ => ?_
  have hsl : ∃ A n c, v = .slice A n c := by
    rcases h2.2 with ⟨e1, e2⟩ | ⟨g, cap, cur, e1, _⟩
    · exact ⟨none, 0, 0, e1⟩
    · exact ⟨_, _, _, e1⟩
  obtain ⟨A, n, c, rfl⟩ := hsl
  exact ⟨A, n, c, h1, h3⟩
end

/-! Where a refusal's place stands: within the text. Plain. No program in sight. -/
section
open Go

theorem rest_place (a : Nat) (r : List UInt8) : (fromRest a r).2.1 ≤ a + r.length ∧ (fromRest a r).1.2.1 ≤ a + r.length := by
  rcases Nat.lt_or_eq_of_le (skipN_le r) with h | h
  · rw [fromRest_run a r h]
    unfold fromRun ofGot
    split
    · exact ⟨Nat.zero_le _, by show a + skipN r ≤ _; omega⟩
    · exact ⟨by show a + skipN r ≤ _; omega, Nat.zero_le _⟩
  · rw [fromRest_end a r h]
    exact ⟨Nat.zero_le _, Nat.le_refl _⟩
theorem nx_place {l : List UInt8} {a : Nat} (ha : a ≤ l.length) : (nx l a).2.1 ≤ l.length ∧ (nx l a).1.2.1 ≤ l.length := by
  have h := rest_place a (l.drop a)
  rw [List.length_drop] at h
  unfold nx
  exact ⟨by omega, by omega⟩
theorem read_place : ∀ f, (∀ l a m deep item p e, a ≤ l.length → pval f l a m deep item = .bad p e → p ≤ l.length) ∧
    (∀ l a m k deep acc p e, a ≤ l.length → pitems f l a m k deep acc = .bad p e → p ≤ l.length) := by
  intro f
  induction f with
  | zero => exact ⟨fun _ _ _ _ _ _ _ _ h => by rw [pval] at h; cases h; exact Nat.zero_le _, fun _ _ _ _ _ _ _ _ _ h => by rw [pitems] at h; cases h; exact Nat.zero_le _⟩
  | succ f ih =>
    refine ⟨fun l a m deep item p e ha h => ?_, fun l a m k deep acc p e ha h => ?_⟩
    · have hn := nx_place ha
      rw [pval] at h
      by_cases h0 : (nx l a).2.2 ≠ 0
      · rw [if_pos h0] at h; cases h; exact hn.1
      rw [if_neg h0] at h
      by_cases h1 : valE (nx l a).1 m deep item ≠ 0
      · rw [if_pos h1] at h; cases h; exact hn.2
      rw [if_neg h1] at h
      have he := nx_end ha (by omega) (valE_stop (m := m) (deep := deep) (item := item) (by omega))
      by_cases h2 : (beginV (nx l a).1).1.k = 3 ∨ (beginV (nx l a).1).1.k = 4
      · rw [if_pos h2] at h
        cases hz : pitems f l (nx l a).1.2.2.1 (m + 1) (beginV (nx l a).1).1.k deep [] with
        | ok vs a' m' => rw [hz] at h; cases h
        | bad p1 e1 => rw [hz] at h; cases h; exact ih.2 _ _ _ _ _ _ _ _ he.2 hz
      · rw [if_neg h2] at h; cases h
    · have hn := nx_place ha
      rw [pitems] at h
      by_cases h0 : (nx l a).2.2 ≠ 0
      · rw [if_pos h0] at h; cases h; exact hn.1
      rw [if_neg h0] at h
      by_cases h1 : shutsK (nx l a).1.1
      · rw [if_pos h1] at h
        by_cases h2 : (nx l a).1.1 ≠ overK k
        · rw [if_pos h2] at h; cases h; exact hn.2
        · rw [if_neg h2] at h; cases h
      · rw [if_neg h1] at h
        cases hz : pval f l a m (deep + 1) (acc.length + 1) with
        | ok v a' m' =>
          rw [hz] at h
          have e1 := (read_ends f).1 _ _ _ _ _ _ _ _ ha hz
          exact ih.2 _ _ _ _ _ _ _ _ e1.2 h
        | bad p1 e1 => rw [hz] at h; cases h; exact ih.1 _ _ _ _ _ _ _ ha hz
theorem readV_place {l : List UInt8} {p e : Nat} (h : readV l = .bad p e) : p ≤ l.length := by
  unfold readV at h
  by_cases h5 : 65536 < l.length
  · rw [if_pos h5] at h; cases h; exact Nat.zero_le _
  rw [if_neg h5] at h
  cases hz : partV l 0 with
  | bad p1 e1 =>
    rw [hz] at h
    cases h
    have e := partV_in (l := l) (a := 0) (Nat.zero_le _)
    rw [show ((0 : Nat) : Int) = 0 from rfl, hz] at e
    exact (read_place _).1 _ _ _ _ _ _ _ (Nat.zero_le _) e.symm
  | ok v a m =>
    rw [hz] at h
    have e := partV_in (l := l) (a := 0) (Nat.zero_le _)
    rw [show ((0 : Nat) : Int) = 0 from rfl, hz] at e
    have ha := ((read_ends _).1 _ _ _ _ _ _ _ _ (Nat.zero_le _) e.symm).2
    have hn := nx_place ha
    change (if (nx l a).2.2 ≠ 0 then PR.bad (nx l a).2.1 (nx l a).2.2 else if (nx l a).1.1 ≠ 10 then PR.bad (nx l a).1.2.1 6 else PR.ok v 0 m) = .bad p _ at h
    by_cases h6 : (nx l a).2.2 ≠ 0
    · rw [if_pos h6] at h; cases h; exact hn.1
    rw [if_neg h6] at h
    by_cases h7 : (nx l a).1.1 ≠ 10
    · rw [if_pos h7] at h; cases h; exact hn.2
    · rw [if_neg h7] at h; cases h
end
end Go.Proofs.YtbhekkkijomglaaGreatDoor
