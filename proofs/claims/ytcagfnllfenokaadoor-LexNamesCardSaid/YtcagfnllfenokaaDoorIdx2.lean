/- strings.IndexAny at lex's constant, over whatever bytes: the short road; then all. -/
import Derived.Test.YtcagfnllfenokaaDoorIdx
import Derived.Lib.OthersKept
import Derived.Lib.TrimU
import Derived.WalkSmall
namespace Go.Proofs.YtcagfnllfenokaaDoor
open Go.RowKit

theorem get_bang (s : ByteArray) (j : Nat) (h : j < s.size) : s.get! j = s[j]'h := by
  have := get_at s j h
  simpa using this

/-- What decoding tells at a place. -/
structure Dec (s : ByteArray) (pos : Nat) : Prop where
  fits : pos + (Utf8.decode s pos).2 ≤ s.size
  rune : ∀ h : pos < s.size, (s[pos]'h).toNat < 128 ∧ (Utf8.decode s pos).1 = (s[pos]'h).toNat ∨ 128 ≤ (s[pos]'h).toNat ∧ ((Utf8.decode s pos).1 = 65533 ∨ Utf8.valid (Utf8.decode s pos).1 = true)
  rest : ∀ j, pos < j → j < pos + (Utf8.decode s pos).2 → ∀ hj : j < s.size, 128 ≤ (s[j]'hj).toNat

theorem cont_hi (s : ByteArray) (j : Nat) (h : j < s.size) (hc : (s.get! j).toNat / 64 = 2) : 128 ≤ (s[j]'h).toNat := by
  rw [get_bang s j h] at hc; omega

set_option maxHeartbeats 2000000 in
theorem dec_at (s : ByteArray) (pos : Nat) (h : pos < s.size) : Dec s pos := by
  by_cases ha : (s[pos]'h).toNat < 128
  · have e := decode_ascii s pos h ha
    exact ⟨by rw [e]; show pos + 1 ≤ _; omega, fun _ => .inl ⟨ha, by rw [e]⟩, fun j h1 h2 _ => by rw [e] at h2; exact absurd h2 (by show ¬ _ < pos + 1; omega)⟩
  · have hcase : (Utf8.decode s pos = (65533, 1)) ∨ (∃ c n, Utf8.decode s pos = (c, n) ∧ (Utf8.valid c = true) ∧ 1 ≤ n ∧ pos + n ≤ s.size ∧ ∀ j, pos < j → j < pos + n → ∀ hj : j < s.size, 128 ≤ (s[j]'hj).toNat) := by
      have hn : ¬ (s[pos]'h).toNat < 128 := ha
      have hb : ∀ k, (s.get! (pos + k)).toNat < 256 := fun k => (s.get! (pos + k)).toNat_lt
      have h0 := hb 0; have h1 := hb 1; have h2 := hb 2; have h3 := hb 3
      have c1 : ∀ (hj : pos + 1 < s.size), (s.get! (pos + 1)).toNat / 64 = 2 → 128 ≤ (s[pos + 1]'hj).toNat := fun hj => cont_hi s _ hj
      have c2 : ∀ (hj : pos + 2 < s.size), (s.get! (pos + 2)).toNat / 64 = 2 → 128 ≤ (s[pos + 2]'hj).toNat := fun hj => cont_hi s _ hj
      have c3 : ∀ (hj : pos + 3 < s.size), (s.get! (pos + 3)).toNat / 64 = 2 → 128 ≤ (s[pos + 3]'hj).toNat := fun hj => cont_hi s _ hj
      simp only [Utf8.decode, get_at s pos h, hn, if_false]
      generalize (s.get! (pos + 1)).toNat = y1 at *
      generalize (s.get! (pos + 2)).toNat = y2 at *
      generalize (s.get! (pos + 3)).toNat = y3 at *
      rw [get_at s pos h] at h0
      generalize (s[pos]'h).toNat = y0 at *
      split
      · rename_i hc
        simp only [Bool.and_eq_true, decide_eq_true_eq, beq_iff_eq] at hc
        split
        · refine .inr ⟨_, _, rfl, ?_, by omega, by omega, ?_⟩
          · simp only [Utf8.valid, Bool.or_eq_true, Bool.and_eq_true, decide_eq_true_eq]; omega
          · intro j j1 j2 hj
            obtain rfl : j = pos + 1 := by omega
            exact c1 hj hc.2.2
        · exact .inl rfl
      split
      · rename_i hc
        simp only [Bool.and_eq_true, decide_eq_true_eq, beq_iff_eq] at hc
        split
        · rename_i hv
          simp only [Bool.and_eq_true, decide_eq_true_eq] at hv
          refine .inr ⟨_, _, rfl, hv.2, by omega, by omega, ?_⟩
          intro j j1 j2 hj
          rcases (by omega : j = pos + 1 ∨ j = pos + 2) with rfl | rfl
          · exact c1 hj hc.1.2.2
          · exact c2 hj hc.2.2
        · exact .inl rfl
      split
      · rename_i hc
        simp only [Bool.and_eq_true, decide_eq_true_eq, beq_iff_eq] at hc
        split
        · rename_i hv
          simp only [Bool.and_eq_true, decide_eq_true_eq] at hv
          refine .inr ⟨_, _, rfl, hv.2, by omega, by omega, ?_⟩
          intro j j1 j2 hj
          rcases (by omega : j = pos + 1 ∨ j = pos + 2 ∨ j = pos + 3) with rfl | rfl | rfl
          · exact c1 hj hc.1.1.2.2
          · exact c2 hj hc.1.2.2
          · exact c3 hj hc.2.2
        · exact .inl rfl
      · exact .inl rfl
    rcases hcase with e | ⟨c, n, e, hv, hn, hfit, hrest⟩
    · exact ⟨by rw [e]; show pos + 1 ≤ _; omega, fun _ => .inr ⟨by omega, .inl (by rw [e])⟩, fun j h1 h2 _ => by rw [e] at h2; exact absurd h2 (by show ¬ _ < pos + 1; omega)⟩
    · exact ⟨by rw [e]; exact hfit, fun _ => .inr ⟨by omega, .inr (by rw [e]; exact hv)⟩, fun j h1 h2 hj => hrest j h1 (by rw [e] at h2; exact h2) hj⟩

theorem rune_at (s : ByteArray) (pos : Nat) (h : pos < s.size) (w : World) :
    Calls Tryd.prog 33 #[.string stops, .int .i32 ((Utf8.decode s pos).1 : Int)] w fun e w' => e = .returned (.int .i64 (Lib.indexByte stops.data.toList (s[pos]'h))) ∧ Below w.heap.size w w' := by
  have hasc : ∀ b ∈ stops.data.toList, b.toNat < 128 := by decide
  rcases (dec_at s pos h).rune h with ⟨h1, h2⟩ | ⟨h1, h2⟩
  · rw [h2]
    refine (Tryd.strings_IndexRune_ascii stops _ w (by omega) (by omega)).mono ?_
    rintro e w' ⟨rfl, rfl⟩
    exact ⟨by simp, Below.refl _ _⟩
  · rw [index_none _ _ (fun b hb hbc => by have := hasc b hb; rw [hbc] at this; omega)]
    rcases h2 with h2 | h2
    · rw [h2]; exact rune_err w
    · by_cases h3 : (Utf8.decode s pos).1 = 65533
      · rw [h3]; exact rune_err w
      · have hle : ((Utf8.decode s pos).1 : Int) ≤ 1114111 := by
          rw [Utf8.valid] at h2; simp only [Bool.or_eq_true, Bool.and_eq_true, decide_eq_true_eq] at h2; omega
        have hge := (decode_high s pos h h1).1
        exact rune_high _ (by omega) hle (by omega) h2 w

theorem noany_next (s : ByteArray) (pos : Nat) (h : pos < s.size) (hno : Lib.NoAny s.data.toList stops.data.toList pos) (hin : stops.data.toList.contains (s[pos]'h) = false) :
    Lib.NoAny s.data.toList stops.data.toList (pos + (Utf8.decode s pos).2) := by
  have hasc : ∀ b ∈ stops.data.toList, b.toNat < 128 := by decide
  have hd := dec_at s pos h
  intro j b hj hb
  by_cases h1 : j < pos
  · exact hno j b h1 hb
  · have hjs : j < s.size := by
      have := hd.fits; omega
    have hb' : b = s[j]'hjs := by
      have := Lib.data_getElem? s j hjs
      rw [this] at hb
      exact (Option.some.inj hb).symm
    by_cases h2 : j = pos
    · subst h2; rw [hb']; exact hin
    · have h3 := hd.rest j (by omega) hj hjs
      rw [hb']
      cases hc : stops.data.toList.contains (s[j]'hjs)
      · rfl
      · have := hasc _ (List.contains_iff_mem.1 hc); omega

theorem next_pack {P : Program} {B k : Nat} {a w : World} {s : ByteArray} {pos : Nat} (hit : w.heap[k]? = some (.stringIter s pos)) (hi : pos < s.size) (hb : Below B a w) (hk : B ≤ k) :
    ∃ W1 : World, (∀ ty, (Instr.next (.pointer (some ⟨k, 0, none⟩)) true ty).run P w = .ok (.tuple #[.bool true, .int .i64 pos, .int .i32 (Utf8.decode s pos).1]) W1) ∧ W1.heap[k]? = some (.stringIter s (pos + (Utf8.decode s pos).2)) ∧ Below B a W1 :=
  ⟨_, fun ty => Lib.run_next_any_at w k s pos ty hit hi, Lib.iterAt_heap w k s pos _ hit, Lib.below_iterAt hb hk s _⟩

set_option maxRecDepth 1000000 in
set_option maxHeartbeats 4000000 in
theorem index_short (s : ByteArray) (w : World) (h8 : s.size ≤ 8) :
    Calls Tryd.prog 22 #[.string s, .string stops] w fun e w' => e = .returned (.int .i64 (Lib.indexAny s.data.toList stops.data.toList)) ∧ Below w.heap.size w w' := by
  have hsz := stops_size
  have hemp : stops.toList.isEmpty = false := by rw [Lib.toList_data]; rfl
  have h8z : decide ((8 : Int) < (s.size : Int)) = false := decide_eq_false (by omega)
  have HR := Lib.hid (fun pos h W => rune_at s pos h W)
  have HNX := Lib.hid (fun pos h => noany_next s pos h)
  have hD := Lib.hid (fun pos h => dec_at s pos h)
  have hstops : ∀ b, stops.data.toList.contains b = decide ((0 : Int) ≤ Lib.indexByte stops.data.toList b) := fun b => Lib.contains_iff_indexByte _ b
  have HS := Lib.hid hstops; clear hstops
  generalize stops = T at *
  go_enter Tryd.func22, Tryd.ntmps22
  go_wp2_with (go_at_call 34; refine (Tryd.strings_shouldUseASCIISet _ _).mono ?_; rintro e w' ⟨rfl, hw⟩; rw [hw, h8z])
  go_loopg [9, 10] s.size (fun g _ _ wx => ∃ i : Nat, s.size ≤ i + g ∧ i ≤ s.size ∧ wx.heap[w.heap.size]? = some (.stringIter s i) ∧ Below w.heap.size w wx ∧ Lib.NoAny s.data.toList T.data.toList i)
  case atStart => exact ⟨0, by omega, Nat.zero_le _, World.iter_heap w s 0, (Below.refl _ _).alloc (Nat.le_refl _) _, Lib.NoAny.zero _ _⟩
  case round =>
    obtain ⟨i, hig, hle, hit, hbw, hno⟩ := hrel
    have HN := Lib.hid hno; clear hno
    by_cases hi : i < s.size
    · obtain ⟨W1, hnx, hit1, hb1⟩ := next_pack (P := Tryd.prog) hit hi hbw (Nat.le_refl _)
      clear hit hbw
      have hlt := lt_of_block hit1
      have hcon := HS.out (s[i]'hi)
      have HI1 := Lib.hid (And.intro hit1 hb1); clear hit1 hb1
      cases hin : T.data.toList.contains (s[i]'hi)
      · rw [hin] at hcon
        have hno : ¬ ((0 : Int) ≤ Lib.indexByte T.data.toList (s[i]'hi)) := of_decide_eq_false hcon.symm
        clear hcon
        go_wp2_with fail
        refine (HR.out i hi _).mono ?_
        rintro e w2 ⟨rfl, b2⟩
        have X := Lib.hid (show w2.heap[w.heap.size]? = some (.stringIter s (i + (Utf8.decode s i).2)) ∧ Below w.heap.size w w2 from ⟨by rw [b2.block _ hlt]; exact HI1.out.1, HI1.out.2.trans (b2.mono (Nat.le_of_lt hlt))⟩)
        go_wp2_with fail
        have hfit := (hD.out i hi).fits
        have hw1 := Lib.width_pos s i
        cases gk with
        | zero => omega
        | succ g =>
          go_roundg g
          case measure => omega
          case rel => exact ⟨_, by omega, hfit, X.out.1, X.out.2, HNX.out i hi HN.out hin⟩
      · rw [hin] at hcon
        have hge : (0 : Int) ≤ Lib.indexByte T.data.toList (s[i]'hi) := of_decide_eq_true hcon.symm
        clear hcon
        go_wp2_with fail
        refine (HR.out i hi _).mono ?_
        rintro e w2 ⟨rfl, b2⟩
        have X := Lib.hid (show Below w.heap.size w w2 from HI1.out.2.trans (b2.mono (Nat.le_of_lt hlt)))
        go_wp2_with fail
        go_ret
        exact ⟨by rw [Lib.indexAny_hit HN.out (Lib.data_getElem? s i hi) hin]; rfl, X.out⟩
    · obtain rfl : i = s.size := by omega
      have hnx := fun ty => Lib.run_next_end_at (P := Tryd.prog) _ w.heap.size s s.size ty hit (Nat.lt_irrefl _)
      go_wp2
      go_ret
      exact ⟨by rw [Lib.indexAny_none (by rw [← Lib.size_eq]; exact HN.out)]; rfl, hbw⟩
end Go.Proofs.YtcagfnllfenokaaDoor
