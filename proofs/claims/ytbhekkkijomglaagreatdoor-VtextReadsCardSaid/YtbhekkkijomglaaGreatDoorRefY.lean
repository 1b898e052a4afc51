/- The walk of the reference's run, whatever the run; what it asks of the numbers. -/
import Derived.Test.YtbhekkkijomglaaGreatDoorRefX
namespace Go.Proofs.YtbhekkkijomglaaGreatDoor
open Go.RowKit

theorem head_get (s : ByteArray) (h0 : 0 < s.size) : s.data.toList.headD 0 = s[0] := by
  have := data_get s 0 h0
  cases hh : s.data.toList with
  | nil => rw [hh] at this; cases this
  | cons c r => rw [hh] at this; exact Option.some.inj this

theorem rrun_num (s : ByteArray) (w : World) (hs : s.size ≤ 20000) (h : NoBr s) (hb : letB (s.data.toList.headD 0) = false) (hc : (digB (s.data.toList.headD 0) || s.data.toList.headD 0 == 45) = true) :
    Calls Tryz.prog 54 #[.string s] w (RunR w (refNum s.data.toList)) := by
  have hlen : s.data.toList.length = s.size := by simp
  obtain ⟨er, ng, v, hr⟩ : ∃ er ng v, read5 s.data.toList = (er, ng, v) := ⟨_, _, _, rfl⟩
  have hE : er ≠ 0 → er ≤ 4 ∧ ng = false ∧ v = 0 := by
    intro he
    have k1 := read4_err s.data.toList
    have k2 := read4_err (s.data.toList.drop 1)
    unfold read5 at hr
    repeat' split at hr
    all_goals
      simp only [Prod.mk.injEq] at hr
      obtain ⟨rfl, rfl, rfl⟩ := hr
      first | exact ⟨k1, rfl, rfl⟩ | exact ⟨k2, rfl, rfl⟩ | exact ⟨by decide, rfl, rfl⟩ | exact absurd rfl he
  have hL : (dgs (65536 ^ 4) v).length ≤ 100000 := by
    have k1 := dgs_len s.data.toList (by omega)
    have k2 := dgs_len (s.data.toList.drop 1) (by rw [List.length_drop]; omega)
    unfold read5 at hr
    repeat' split at hr
    all_goals
      simp only [Prod.mk.injEq] at hr
      obtain ⟨rfl, rfl, rfl⟩ := hr
      first | exact k1 | exact k2 | (rw [dgs_zero]; exact Nat.zero_le _)
  have hP : er = 0 → ng = true → 0 < v := by
    intro he hn
    unfold read5 at hr
    repeat' split at hr
    all_goals
      simp only [Prod.mk.injEq] at hr
      obtain ⟨rfl, rfl, rfl⟩ := hr
      first | (cases hn; done) | (rename_i k; exact absurd he k) | exact absurd he (by decide) | omega
  unfold refNum
  rw [hr]
  by_cases he : er = 0
  · subst he
    rw [if_neg (by simp)]
    cases ng with
    | true =>
      rw [if_pos rfl]
      by_cases h1 : v ≤ 9223372036854775808
      · rw [if_pos h1]; exact run_numneg s w hs h hb hc v hL (hP rfl rfl) h1 hr
      · rw [if_neg h1]; exact run_numneglong s w hs h hb hc v hL (hP rfl rfl) (by omega) hr
    | false =>
      rw [if_neg (by simp)]
      by_cases h1 : v ≤ 9223372036854775807
      · rw [if_pos h1]; exact run_numpos s w hs h hb hc v hL h1 hr
      · rw [if_neg h1]; exact run_numposlong s w hs h hb hc v hL (by omega) hr
  · rw [if_pos he]
    obtain ⟨k1, rfl, rfl⟩ := hE he
    exact run_numbad s w hs h hb hc er he k1 hr

theorem rrun_any (s : ByteArray) (t : List UInt8) (w : World) (hs : s.size ≤ 20000) (h : Cut s.data.toList t) :
    Calls Tryz.prog 54 #[.string s] w (RunR w (lexRun s.data.toList)) := by
  have hlen : s.data.toList.length = s.size := by simp
  have h0 : 0 < s.size := by have := h.pos; omega
  have hh := head_get s h0
  rw [← refRun_eq h, refRun]
  by_cases h1 : s.data.toList.length = 1 ∧ brB (s.data.toList.headD 0) = true
  · rw [if_pos h1]
    obtain ⟨h1, h2⟩ := h1
    rw [hh] at h2 ⊢
    exact run_bracket s w (by omega) h2
  rw [if_neg h1]
  have hno : NoBr s := by
    refine ⟨h0, ?_⟩
    by_cases h2 : s.size = 1
    · refine .inr ⟨beq_iff_eq.2 (by omega), ?_⟩
      rw [hlen, hh] at h1
      have h3 : brB s[0] = false := by
        cases h4 : brB s[0] with
        | false => rfl
        | true => exact absurd ⟨h2, h4⟩ h1
      have := of_decide_eq_false h3
      omega
    · exact .inl (beq_eq_false_iff_ne.2 (by omega))
  by_cases h2 : letB (s.data.toList.headD 0) = true
  · rw [if_pos h2]
    by_cases h3 : s.data.toList.all letB = true
    · rw [if_pos h3]; exact run_word s w hs hno h3
    · rw [if_neg h3]; exact run_letbad s w hs hno h2 (by simpa using h3)
  rw [if_neg h2]
  have h2' : letB (s.data.toList.headD 0) = false := by simpa using h2
  by_cases h3 : (digB (s.data.toList.headD 0) || s.data.toList.headD 0 == 45) = true
  · rw [if_pos h3]; exact rrun_num s w hs hno h2' h3
  rw [if_neg h3]
  have h3' : (digB (s.data.toList.headD 0) || s.data.toList.headD 0 == 45) = false := by simpa using h3
  by_cases h4 : (s.data.toList.headD 0 == 35) = true
  · rw [if_pos h4]
    by_cases h5 : (s.data.toList.drop 1).all bitB = true
    · rw [if_pos h5]
      by_cases h6 : isB (s.data.toList.drop 1) = true
      · rw [if_pos h6]; exact run_row s w hs hno h2' h3' h4 h5 h6
      · rw [if_neg h6]; exact run_rowlong s w hs hno h2' h3' h4 h5 (by simpa using h6)
    · rw [if_neg h5]; exact run_rowbad s w hs hno h2' h3' h4 (by simpa using h5)
  · rw [if_neg h4]; exact run_none s w hs hno h2' h3' (by simpa using h4)

/-- Where blanks stand ahead, and what stands behind them. -/
theorem tw_at (f : UInt8 → Bool) (l : List UInt8) (j : Nat) (h : j < (l.takeWhile f).length) : ∃ c, l[j]? = some c ∧ f c = true := by
  have h1 := takeWhile_take f l
  have h2 : (l.takeWhile f)[j]? = some (l.takeWhile f)[j] := List.getElem?_eq_getElem h
  refine ⟨(l.takeWhile f)[j], ?_, takeWhile_all f l _ (List.getElem_mem h)⟩
  rw [← h2]
  conv => rhs; rw [h1]
  rw [List.getElem?_take, if_pos h]
theorem tw_end (f : UInt8 → Bool) (l : List UInt8) (h : (l.takeWhile f).length < l.length) : ∃ c, l[(l.takeWhile f).length]? = some c ∧ f c = false := by
  refine ⟨l[(l.takeWhile f).length], List.getElem?_eq_getElem h, ?_⟩
  exact takeWhile_next f l _ _ (List.drop_eq_getElem_cons h)
theorem byte_drop (s : ByteArray) (a j : Nat) (c : UInt8) (h : (s.data.toList.drop a)[j]? = some c) : ∃ hk : a + j < s.size, s[a + j] = c := by
  rw [List.getElem?_drop] at h
  obtain ⟨h1, h2⟩ := List.getElem?_eq_some_iff.1 h
  have h3 : a + j < s.size := by simpa using h1
  refine ⟨h3, ?_⟩
  have := data_get s (a + j) h3
  rw [h] at this
  exact (Option.some.inj this).symm
/-- A text's next run, byte by byte. -/
theorem next_bytes (s : ByteArray) (a : Nat) (ha : a ≤ s.size) (b : Nat) (hb : b = a + skipN (s.data.toList.drop a)) :
    b ≤ s.size ∧ (∀ j, a ≤ j → j < b → ∃ h : j < s.size, blankB s[j] = true) ∧
    ((h : b < s.size) → blankB s[b] = false ∧ ∃ m, m = runLen (s.data.toList.drop b) ∧ 0 < m ∧ b + m ≤ s.size ∧ Cut ((s.data.toList.drop b).take m) (s.data.toList.drop (b + m)) ∧
      (brB s[b] = true → m = 1) ∧ (brB s[b] = false → (∀ j, b < j → j < b + m → ∃ h : j < s.size, blankB s[j] = false ∧ brB s[j] = false) ∧ ((h : b + m < s.size) → blankB s[b + m] = true ∨ (blankB s[b + m] = false ∧ brB s[b + m] = true)))) := by
  have hlen : s.data.toList.length = s.size := by simp
  have hl : (s.data.toList.drop a).length = s.size - a := by rw [List.length_drop, hlen]
  have hk := skipN_le (s.data.toList.drop a)
  rw [hl] at hk
  refine ⟨by omega, fun j h1 h2 => ?_, fun h => ?_⟩
  · obtain ⟨c, hc, hf⟩ := tw_at blankB (s.data.toList.drop a) (j - a) (by unfold skipN at hb; omega)
    obtain ⟨h3, h4⟩ := byte_drop s a (j - a) c hc
    have e : a + (j - a) = j := by omega
    simp only [e] at h3 h4
    exact ⟨h3, by rw [h4]; exact hf⟩
  · obtain ⟨c, hc, hf⟩ := tw_end blankB (s.data.toList.drop a) (by unfold skipN at hb; omega)
    obtain ⟨h3, h4⟩ := byte_drop s a _ c hc
    have e : a + ((s.data.toList.drop a).takeWhile blankB).length = b := hb.symm
    simp only [e] at h3 h4
    rw [← h4] at hf
    have hd : s.data.toList.drop b = s[b] :: s.data.toList.drop (b + 1) := by
      have := List.drop_eq_getElem_cons (l := s.data.toList) (i := b) (by omega)
      rw [this]; rfl
    obtain ⟨m, hm⟩ : ∃ m, m = runLen (s.data.toList.drop b) := ⟨_, rfl⟩
    have hle := runLen_le (s.data.toList.drop b)
    rw [List.length_drop, hlen, ← hm] at hle
    have hpos : 0 < m := by rw [hm, hd]; exact runLen_pos _ _
    refine ⟨hf, m, hm, hpos, by omega, ?_, fun hbr => ?_, fun hbr => ?_⟩
    · by_cases hbr : brB s[b] = true
      · have h1 : m = 1 := by rw [hm, hd, runLen, if_pos (br_stop hbr)]
        refine ⟨by rw [hd, h1]; simp, .inl ?_⟩
        rw [hd, h1]
        exact ⟨hbr, rfl⟩
      · have hst : stopB s[b] = false := by unfold stopB; rw [hf]; simpa using hbr
        have h1 : m = ((s.data.toList.drop b).takeWhile fun x => !stopB x).length := by rw [hm, hd, runLen, if_neg (by simp [hst])]
        refine ⟨by rw [hd, show m = (m - 1) + 1 by omega, List.take_succ_cons]; simp, .inr ⟨fun c hc => ?_, fun c u e2 => ?_⟩⟩
        · rw [h1, ← takeWhile_take] at hc
          simpa using takeWhile_all (fun x => !stopB x) _ c hc
        · rw [← List.drop_drop, h1] at e2
          simpa using takeWhile_next (fun x => !stopB x) _ c u e2
    · rw [hm, hd, runLen, if_pos (br_stop hbr)]
    · have hst : stopB s[b] = false := by unfold stopB; rw [hf, hbr]; rfl
      have h1 : m = ((s.data.toList.drop b).takeWhile fun x => !stopB x).length := by rw [hm, hd, runLen, if_neg (by simp [hst])]
      refine ⟨fun j h5 h6 => ?_, fun h5 => ?_⟩
      · obtain ⟨c, hc, hg⟩ := tw_at (fun x => !stopB x) (s.data.toList.drop b) (j - b) (by omega)
        obtain ⟨h7, h8⟩ := byte_drop s b (j - b) c hc
        have e : b + (j - b) = j := by omega
        simp only [e] at h7 h8
        have hg' : stopB s[j] = false := by rw [h8]; simpa using hg
        exact ⟨h7, go_blank hg', go_br hg'⟩
      · obtain ⟨c, hc, hg⟩ := tw_end (fun x => !stopB x) (s.data.toList.drop b) (by rw [← h1, List.length_drop, hlen]; omega)
        rw [← h1] at hc
        obtain ⟨h7, h8⟩ := byte_drop s b m c hc
        have hg' : stopB s[b + m] = true := by rw [h8]; simpa using hg
        unfold stopB at hg'
        cases hbl : blankB s[b + m] with
        | true => exact .inl rfl
        | false => rw [hbl, Bool.false_or] at hg'; exact .inr ⟨rfl, hg'⟩
end Go.Proofs.YtbhekkkijomglaaGreatDoor
