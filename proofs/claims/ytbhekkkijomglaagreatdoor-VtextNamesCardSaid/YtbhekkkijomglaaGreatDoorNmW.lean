/- The wide texts of VtextNames: what is read of them. Plain. No program in sight. -/
import Derived.Test.YtbhekkkijomglaaGreatDoorNmP
namespace Go.Proofs.YtbhekkkijomglaaGreatDoor
open Go

theorem repsL_front (l : List UInt8) (n : Nat) : repsL l (n + 1) = l ++ repsL l n := by
  induction n with
  | zero => simp [repsL]
  | succ n ih => show repsL l (n + 1) ++ l = l ++ (repsL l n ++ l); rw [ih, List.append_assoc]
theorem pitems_nx {f : Nat} {l : List UInt8} {a b m k deep : Nat} {acc : List V} (h : nx l a = nx l b) : pitems f l a m k deep acc = pitems f l b m k deep acc := by
  cases f with
  | zero => rw [pitems, pitems]
  | succ f => rw [pitems, pitems, h, pval_nx h]
theorem nsh3 : ¬ shutsK 3 := by unfold shutsK; decide
theorem nsh8 : ¬ shutsK 8 := by unfold shutsK; decide
theorem sh4 : shutsK 4 := by unfold shutsK; decide
theorem sh6 : shutsK 6 := by unfold shutsK; decide
theorem nk1 (n : Int) : ¬ ((V.mk 1 n []).k = 3 ∨ (V.mk 1 n []).k = 4) := by simp [V.k]
theorem yk3 : (V.mk 3 0 []).k = 3 ∨ (V.mk 3 0 []).k = 4 := .inl rfl
theorem yk4 : (V.mk 4 0 []).k = 3 ∨ (V.mk 4 0 []).k = 4 := .inr rfl
abbrev zV0 : V := .mk 1 0 []
theorem run_zero : lexRun [48] = ((8, 0, []), 0) := by kernel_rfl
theorem valE_num {a b : Nat} {n : Int} {m deep item : Nat} (h0 : -1099511627776 ≤ n ∧ n ≤ 1099511627776) (h1 : item ≤ 64) (h2 : deep ≤ 128) (h3 : m + 1 ≤ 4096) : valE (8, a, b, n, []) m deep item = 0 := by
  have hb : beginV (8, a, b, n, []) = (.mk 1 n [], 0) := rfl
  unfold valE
  rw [hb, if_neg (by simp), if_neg (by omega), if_neg (by omega), if_neg (by omega)]
  exact V.check_leaf 1 n (by unfold nodeE; rw [if_neg (by omega), if_neg (by omega), if_neg (by omega), if_neg (by omega), if_neg (by omega), if_neg (by omega)])
theorem valE_open {k a b : Nat} {m deep item : Nat} (hk : k = 3 ∨ k = 5) (h1 : item ≤ 64) (h2 : deep ≤ 128) (h3 : m + 1 ≤ 4096) : valE (k, a, b, 0, []) m deep item = 0 := by
  unfold valE
  rcases hk with rfl | rfl
  · have hb : beginV (3, a, b, 0, []) = (.mk 4 0 [], 0) := rfl
    rw [hb, if_neg (by simp), if_neg (by omega), if_neg (by omega), if_neg (by omega)]
    exact V.check_leaf 4 0 rfl
  · have hb : beginV (5, a, b, 0, []) = (.mk 3 0 [], 0) := rfl
    rw [hb, if_neg (by simp), if_neg (by omega), if_neg (by omega), if_neg (by omega)]
    exact V.check_leaf 3 0 rfl
theorem valE_many {x : MarkT} {m deep item : Nat} (hb : (beginV x).2 = 0) (h1 : item ≤ 64) (h2 : deep ≤ 128) (h3 : 4096 < m + 1) : valE x m deep item = 5 := by
  unfold valE
  rw [hb, if_neg (by simp), if_neg (by omega), if_neg (by omega), if_pos h3]
theorem num_at0 (q s : List UInt8) (hs : Stops s) : nx (q ++ (48 :: s)) q.length = ((8, q.length, q.length + 1, 0, []), 0, 0) := by
  have h := nx_tok q (x := [48]) (t := s) ⟨by decide, .inr ⟨by decide, hs⟩⟩
  rw [run_zero, ofGot_ok] at h
  exact h
theorem br_at (q s : List UInt8) {b : UInt8} {k : Nat} (hb : brB b = true) (hk : lexRun [b] = ((k, 0, []), 0)) : nx (q ++ (b :: s)) q.length = ((k, q.length, q.length + 1, 0, []), 0, 0) := by
  have h := nx_tok q (x := [b]) (t := s) (cut_br b s hb)
  rw [hk, ofGot_ok] at h
  exact h
theorem stops_gt (s : List UInt8) : Stops (62 :: s) := by intro c t e; injection e with e _; subst e; decide
theorem stops_rb (s : List UInt8) : Stops (93 :: s) := by intro c t e; injection e with e _; subst e; decide
theorem cut_one62 : Cut [49] [62] := ⟨by decide, .inr ⟨by decide, stops_gt []⟩⟩
theorem cut_one93 : Cut [49] [93, 62] := ⟨by decide, .inr ⟨by decide, stops_rb [62]⟩⟩
theorem cut_nine93 : Cut [57, 57, 57, 57, 57, 57, 57, 57, 57, 57, 57, 57, 57] [93, 62] := ⟨by decide, .inr ⟨by decide, stops_rb [62]⟩⟩
theorem stops_sp (s : List UInt8) : Stops (32 :: s) := by intro c t e; injection e with e _; subst e; decide
/-- So many zeros, each with a blank behind. -/
theorem zeros_items (s : List UInt8) (k deep : Nat) (hd : deep + 1 ≤ 128) : ∀ (n : Nat) (q : List UInt8) (f m : Nat) (acc : List V), 1 ≤ f → acc.length + n ≤ 64 → m + n ≤ 4096 →
    pitems (f + n) (q ++ (repsL [48, 32] n ++ s)) q.length m k deep acc = pitems f (q ++ (repsL [48, 32] n ++ s)) (q.length + 2 * n) (m + n) k deep (acc ++ List.replicate n zV0) := by
  intro n
  induction n with
  | zero => intro q f m acc _ _ _; simp [List.replicate]
  | succ n ih =>
    intro q f m acc hf ha hm
    have hL : q ++ (repsL [48, 32] (n + 1) ++ s) = q ++ (48 :: (32 :: (repsL [48, 32] n ++ s))) := by rw [repsL_front]; simp
    have hL2 : q ++ (repsL [48, 32] (n + 1) ++ s) = (q ++ [48, 32]) ++ (repsL [48, 32] n ++ s) := by rw [repsL_front]; simp
    have hx : nx (q ++ (repsL [48, 32] (n + 1) ++ s)) q.length = ((8, q.length, q.length + 1, 0, []), 0, 0) := by rw [hL]; exact num_at0 q _ (stops_sp _)
    have hsp : nx (q ++ (repsL [48, 32] (n + 1) ++ s)) (q.length + 1) = nx (q ++ (repsL [48, 32] (n + 1) ++ s)) (q ++ [48, 32]).length := by
      have h := nx_blank (q ++ [48]) 32 (repsL [48, 32] n ++ s) rfl
      have e1 : (q ++ [48]) ++ (32 :: (repsL [48, 32] n ++ s)) = q ++ (repsL [48, 32] (n + 1) ++ s) := by rw [hL]; simp
      have e2 : (q ++ [48]).length = q.length + 1 := by simp
      have e3 : (q ++ [48, 32]).length = q.length + 1 + 1 := by simp
      rw [e1, e2] at h
      rw [e3]
      exact h
    rw [show f + (n + 1) = (f + n) + 1 by omega, pitems_e4 hx rfl nsh8]
    have hp : pval (f + n) (q ++ (repsL [48, 32] (n + 1) ++ s)) q.length m (deep + 1) (acc.length + 1) = .ok zV0 (q.length + 1) (m + 1) := by
      obtain ⟨g, hg⟩ : ∃ g, f + n = g + 1 := ⟨f + n - 1, by omega⟩
      rw [hg, pval_e4 hx rfl (valE_num (by decide) (by omega) hd (by omega)) (nk1 0)]
      rfl
    rw [hp]
    show pitems (f + n) _ (q.length + 1) (m + 1) k deep (acc ++ [zV0]) = _
    rw [pitems_nx hsp, hL2, ih (q ++ [48, 32]) f (m + 1) (acc ++ [zV0]) hf (by simp; omega) (by omega)]
    have e3 : (q ++ [48, 32]).length + 2 * n = q.length + 2 * (n + 1) := by simp; omega
    rw [e3, show m + 1 + n = m + (n + 1) by omega, List.append_assoc acc, List.replicate_succ]
    rfl
/-- A list of so many zeros. -/
def zT (n : Nat) : List UInt8 := 91 :: (repsL [48, 32] n ++ [93])
theorem zT_app (n : Nat) (s : List UInt8) : zT n ++ s = 91 :: (repsL [48, 32] n ++ (93 :: s)) := by simp [zT]
theorem zT_length (n : Nat) : (zT n).length = 2 * n + 2 := by rw [zT, List.length_cons, List.length_append, repsL_length]; simp; omega
theorem zeros_list (n : Nat) (q s : List UInt8) (f m deep item : Nat) (hn : n ≤ 64) (hi : item ≤ 64) (hd : deep + 1 ≤ 128) (hm : m + 1 + n ≤ 4096) :
    pval (f + 2 + n) (q ++ (zT n ++ s)) q.length m deep item = .ok (.mk 4 0 (List.replicate n zV0)) (q.length + 2 * n + 2) (m + 1 + n) := by
  have hL : q ++ (zT n ++ s) = q ++ (91 :: (repsL [48, 32] n ++ (93 :: s))) := by rw [zT]; simp
  have hL2 : q ++ (zT n ++ s) = (q ++ [91]) ++ (repsL [48, 32] n ++ (93 :: s)) := by rw [hL]; simp
  have hL3 : q ++ (zT n ++ s) = ((q ++ [91]) ++ repsL [48, 32] n) ++ (93 :: s) := by rw [hL2]; simp
  have hx : nx (q ++ (zT n ++ s)) q.length = ((3, q.length, q.length + 1, 0, []), 0, 0) := by rw [hL]; exact br_at q _ (by decide) (by decide)
  have hy : nx (q ++ (zT n ++ s)) (q.length + 1 + 2 * n) = ((4, q.length + 1 + 2 * n, q.length + 1 + 2 * n + 1, 0, []), 0, 0) := by
    have h := br_at ((q ++ [91]) ++ repsL [48, 32] n) s (b := 93) (k := 4) (by decide) (by decide)
    have e : ((q ++ [91]) ++ repsL [48, 32] n).length = q.length + 1 + 2 * n := by simp [repsL_length]; omega
    rw [e] at h
    rw [hL3]
    exact h
  rw [show f + 2 + n = (f + 1 + n) + 1 by omega, pval_e3 hx rfl (valE_open (.inl rfl) hi (by omega) (by omega)) yk4]
  have hz := zeros_items (93 :: s) 4 deep hd n (q ++ [91]) (f + 1) (m + 1) [] (by omega) (by simpa using hn) (by omega)
  rw [← hL2, show (q ++ [91] : List UInt8).length = q.length + 1 by simp, List.nil_append, pitems_e3 hy rfl sh4 (show (4 : Nat) = overK 4 from rfl)] at hz
  show bindP (pitems (f + 1 + n) _ (q.length + 1) (m + 1) 4 deep []) _ = _
  rw [hz]
  show PR.ok _ (q.length + 1 + 2 * n + 1) (m + 1 + n) = PR.ok _ _ _
  rw [show q.length + 1 + 2 * n + 1 = q.length + 2 * n + 2 by omega]
  rfl
abbrev zL (n : Nat) : V := .mk 4 0 (List.replicate n zV0)
/-- So many lists of 64 zeros. -/
theorem lists_items (s : List UInt8) (k deep : Nat) (hd : deep + 2 ≤ 128) : ∀ (c : Nat) (q : List UInt8) (f m : Nat) (acc : List V), 66 ≤ f → acc.length + c ≤ 64 → m + 65 * c ≤ 4096 →
    pitems (f + c) (q ++ (repsL (zT 64) c ++ s)) q.length m k deep acc = pitems f (q ++ (repsL (zT 64) c ++ s)) (q.length + 130 * c) (m + 65 * c) k deep (acc ++ List.replicate c (zL 64)) := by
  intro c
  induction c with
  | zero => intro q f m acc _ _ _; simp [List.replicate]
  | succ c ih =>
    intro q f m acc hf ha hm
    have hL : q ++ (repsL (zT 64) (c + 1) ++ s) = q ++ (zT 64 ++ (repsL (zT 64) c ++ s)) := by rw [repsL_front, List.append_assoc]
    have hL2 : q ++ (repsL (zT 64) (c + 1) ++ s) = (q ++ zT 64) ++ (repsL (zT 64) c ++ s) := by rw [hL]; simp
    have hx : nx (q ++ (repsL (zT 64) (c + 1) ++ s)) q.length = ((3, q.length, q.length + 1, 0, []), 0, 0) := by
      rw [hL, zT_app]
      exact br_at q _ (by decide) (by decide)
    rw [show f + (c + 1) = (f + c) + 1 by omega, pitems_e4 hx rfl nsh3]
    have hp : pval (f + c) (q ++ (repsL (zT 64) (c + 1) ++ s)) q.length m (deep + 1) (acc.length + 1) = .ok (zL 64) (q.length + 2 * 64 + 2) (m + 1 + 64) := by
      obtain ⟨g, hg⟩ : ∃ g, f + c = g + 2 + 64 := ⟨f + c - 66, by omega⟩
      rw [hg, hL]
      exact zeros_list 64 q _ g m (deep + 1) (acc.length + 1) (by omega) (by omega) (by omega) (by omega)
    rw [hp]
    show pitems (f + c) _ (q.length + 2 * 64 + 2) (m + 1 + 64) k deep (acc ++ [zL 64]) = _
    have e3 : (q ++ zT 64).length = q.length + 2 * 64 + 2 := by rw [List.length_append, zT_length]
    rw [hL2, ← e3, ih (q ++ zT 64) f (m + 1 + 64) (acc ++ [zL 64]) hf (by simp <;> omega) (by omega), e3]
    rw [show q.length + 2 * 64 + 2 + 130 * c = q.length + 130 * (c + 1) by omega, show m + 1 + 64 + 65 * c = m + 65 * (c + 1) by omega, List.append_assoc acc, List.replicate_succ (n := c)]
    rfl
def wideL : List UInt8 := 60 :: (repsL (zT 64) 62 ++ zT 63)
theorem wideL_length : wideL.length = 8189 := by
  rw [wideL, List.length_cons, List.length_append, repsL_length, zT_length, zT_length]
/-- Up to what stands behind the lists. -/
theorem wide_upto (s : List UInt8) (hs : s.length ≤ 100) : ∃ f, 1000 ≤ f ∧ partV (wideL ++ s) 0 = bindP (pitems f (wideL ++ s) 8189 4095 3 1 (List.replicate 62 (zL 64) ++ [zL 63])) fun vs a' m' => .ok (.mk 3 0 vs) a' m' := by
  have hlen : (wideL ++ s).length = 8189 + s.length := by rw [List.length_append, wideL_length]
  obtain ⟨f, hf, hfu⟩ : ∃ f, 1000 ≤ f ∧ fuelV (wideL ++ s) = f + 1 + 62 + 1 := ⟨fuelV (wideL ++ s) - 64, by unfold fuelV; omega, by unfold fuelV; omega⟩
  refine ⟨f, hf, ?_⟩
  have hL : wideL ++ s = 60 :: (repsL (zT 64) 62 ++ (zT 63 ++ s)) := by rw [wideL]; simp
  have hL2 : wideL ++ s = [60] ++ (repsL (zT 64) 62 ++ (zT 63 ++ s)) := by rw [hL]; rfl
  have hL3 : wideL ++ s = ([60] ++ repsL (zT 64) 62) ++ (zT 63 ++ s) := by rw [hL2]; simp
  have e8 : ([60] ++ repsL (zT 64) 62 : List UInt8).length = 8061 := by rw [List.length_append, repsL_length, zT_length]; rfl
  have hx : nx (wideL ++ s) 0 = ((5, 0, 1, 0, []), 0, 0) := by
    have h := br_at [] (repsL (zT 64) 62 ++ (zT 63 ++ s)) (b := 60) (k := 5) (by decide) (by decide)
    rw [List.nil_append, ← hL] at h
    exact h
  have hp := partV_in (l := wideL ++ s) (a := 0) (Nat.zero_le _)
  refine hp.trans ?_
  rw [hfu, pval_e3 hx rfl (valE_open (.inr rfl) (by omega) (by omega) (by omega)) yk3]
  show bindP (pitems (f + 1 + 62) (wideL ++ s) 1 1 3 1 []) _ = _
  have hit := lists_items (zT 63 ++ s) 3 1 (by omega) 62 [60] (f + 1) 1 [] (by omega) (by simp) (by omega)
  rw [← hL2, show ([60] : List UInt8).length + 130 * 62 = 8061 from rfl, show 1 + 65 * 62 = 4031 from rfl, List.nil_append, show ([60] : List UInt8).length = 1 from rfl] at hit
  rw [hit]
  have hy : nx (wideL ++ s) 8061 = ((3, 8061, 8062, 0, []), 0, 0) := by
    have h := br_at ([60] ++ repsL (zT 64) 62) (repsL [48, 32] 63 ++ (93 :: s)) (b := 91) (k := 3) (by decide) (by decide)
    rw [e8] at h
    rw [hL3, zT_app]
    exact h
  rw [pitems_e4 hy rfl nsh3]
  have hlist := zeros_list 63 ([60] ++ repsL (zT 64) 62) s (f - 65) 4031 2 63 (by omega) (by omega) (by omega) (by omega)
  rw [← hL3, e8, show f - 65 + 2 + 63 = f by omega] at hlist
  have hl63 : (List.replicate 62 (zL 64)).length + 1 = 63 := by rw [List.length_replicate]
  rw [hl63]
  show bindP (bindP (pval f (wideL ++ s) 8061 4031 2 63) _) _ = _
  rw [hlist]
  rfl
theorem wide_ok : ∃ v m, readV (wideL ++ [49, 62]) = .ok v 0 m := by
  obtain ⟨f, hf, hp⟩ := wide_upto [49, 62] (by decide)
  obtain ⟨g, rfl⟩ : ∃ g, f = g + 1 + 1 := ⟨f - 2, by omega⟩
  have hx : nx (wideL ++ [49, 62]) 8189 = ((8, 8189, 8190, 1, []), 0, 0) := by
    have h := nx_tok wideL (x := [49]) (t := [62]) cut_one62
    rw [show lexRun [49] = ((8, 1, []), 0) by kernel_rfl, ofGot_ok, wideL_length] at h
    exact h
  have hy : nx (wideL ++ [49, 62]) 8190 = ((6, 8190, 8191, 0, []), 0, 0) := by
    have h := br_at (wideL ++ [49]) [] (b := 62) (k := 6) (by decide) (by decide)
    rw [List.length_append, wideL_length, List.append_assoc] at h
    exact h
  have hz : nx (wideL ++ [49, 62]) 8191 = ((10, 8191, 8191, 0, []), 0, 0) := by
    have h := nx_last (wideL ++ [49, 62])
    rw [List.length_append, wideL_length] at h
    exact h
  rw [pitems_e4 hx rfl nsh8] at hp
  have hl64 : (List.replicate 62 (zL 64) ++ [zL 63]).length + 1 = 64 := by rw [List.length_append, List.length_replicate]; rfl
  rw [hl64, pval_e4 hx rfl (valE_num (by decide) (by omega) (by omega) (by omega)) (nk1 1)] at hp
  have hp' : partV (wideL ++ [49, 62]) 0 = bindP (pitems (g + 1) (wideL ++ [49, 62]) 8190 4096 3 1 ((List.replicate 62 (zL 64) ++ [zL 63]) ++ [.mk 1 1 []])) fun vs a' m' => .ok (.mk 3 0 vs) a' m' := hp
  rw [pitems_e3 hy rfl sh6 (show (6 : Nat) = overK 3 from rfl)] at hp'
  refine ⟨.mk 3 0 ((List.replicate 62 (zL 64) ++ [zL 63]) ++ [.mk 1 1 []]), 4096, ?_⟩
  have hlen : (wideL ++ [49, 62]).length = 8191 := by rw [List.length_append, wideL_length]; rfl
  unfold readV
  rw [if_neg (by rw [hlen]; decide), hp']
  simp only [bindP]
  rw [hz]
  rfl
theorem wide_bad (r : List UInt8) (hr : r.length ≤ 90) {b : Nat} {n : Int} (hx : nx (wideL ++ 91 :: r) 8190 = ((8, 8190, b, n, []), 0, 0)) : readV (wideL ++ 91 :: r) = .bad 8190 5 := by
  obtain ⟨f, hf, hp⟩ := wide_upto (91 :: r) (by rw [List.length_cons]; omega)
  obtain ⟨g, rfl⟩ : ∃ g, f = g + 1 + 1 + 1 + 1 := ⟨f - 4, by omega⟩
  have hy : nx (wideL ++ 91 :: r) 8189 = ((3, 8189, 8190, 0, []), 0, 0) := by
    have h := br_at wideL r (b := 91) (k := 3) (by decide) (by decide)
    rw [wideL_length] at h
    exact h
  rw [pitems_e4 hy rfl nsh3] at hp
  have hl64 : (List.replicate 62 (zL 64) ++ [zL 63]).length + 1 = 64 := by rw [List.length_append, List.length_replicate]; rfl
  rw [hl64, pval_e3 hy rfl (valE_open (.inl rfl) (by omega) (by omega) (by omega)) yk4] at hp
  have hp' : partV (wideL ++ 91 :: r) 0 = bindP (bindP (bindP (pitems (g + 1 + 1) (wideL ++ 91 :: r) 8190 4096 4 2 []) fun vs a' m' => PR.ok (.mk 4 0 vs) a' m') fun v a' m' => pitems (g + 1 + 1 + 1) (wideL ++ 91 :: r) a' m' 3 1 ((List.replicate 62 (zL 64) ++ [zL 63]) ++ [v])) fun vs a' m' => .ok (.mk 3 0 vs) a' m' := hp
  rw [pitems_e4 hx rfl nsh8, pval_e2 hx rfl (by rw [valE_many rfl (by simp) (by omega) (by omega)]; decide), valE_many rfl (by simp) (by omega) (by omega)] at hp'
  have hlen : (wideL ++ 91 :: r).length = 8190 + r.length := by rw [List.length_append, wideL_length, List.length_cons]; omega
  unfold readV
  rw [if_neg (by rw [hlen]; omega), hp']
  rfl
theorem wide_b1 : readV (wideL ++ [91, 49, 93, 62]) = .bad 8190 5 := by
  refine wide_bad [49, 93, 62] (by decide) (b := 8191) (n := 1) ?_
  have h := nx_tok (wideL ++ [91]) (x := [49]) (t := [93, 62]) cut_one93
  rw [show lexRun [49] = ((8, 1, []), 0) by kernel_rfl, ofGot_ok, List.length_append, wideL_length, List.append_assoc] at h
  exact h
theorem wide_b2 : readV (wideL ++ [91, 57, 57, 57, 57, 57, 57, 57, 57, 57, 57, 57, 57, 57, 93, 62]) = .bad 8190 5 := by
  refine wide_bad [57, 57, 57, 57, 57, 57, 57, 57, 57, 57, 57, 57, 57, 93, 62] (by decide) (b := 8203) (n := 9999999999999) ?_
  have h := nx_tok (wideL ++ [91]) (x := [57, 57, 57, 57, 57, 57, 57, 57, 57, 57, 57, 57, 57]) (t := [93, 62]) cut_nine93
  rw [show lexRun [57, 57, 57, 57, 57, 57, 57, 57, 57, 57, 57, 57, 57] = ((8, 9999999999999, []), 0) by kernel_rfl, ofGot_ok, List.length_append, wideL_length, List.append_assoc] at h
  exact h
end Go.Proofs.YtbhekkkijomglaaGreatDoor
