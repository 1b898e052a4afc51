/- The reader's items: the loop. -/
import Derived.Test.YtbhekkkijomglaaGreatDoorRdG
namespace Go.Proofs.YtbhekkkijomglaaGreatDoor
open Go.RowKit

theorem pval_item {f : Nat} {l : List UInt8} {a m deep item : Nat} {v : V} {a' m' : Nat} (h : pval f l a m deep item = .ok v a' m') : item ≤ 64 := by
  cases f with
  | zero => rw [pval] at h; cases h
  | succ f =>
    rw [pval] at h
    by_cases h0 : (nx l a).2.2 ≠ 0
    · rw [if_pos h0] at h; cases h
    rw [if_neg h0] at h
    by_cases h1 : valE (nx l a).1 m deep item ≠ 0
    · rw [if_pos h1] at h; cases h
    exact (valE_zero (x := (nx l a).1) (m := m) (deep := deep) (item := item) (by omega)).2.1

/-- What the reader's value does, so much fuel given. -/
def PV (f : Nat) : Prop := ∀ (s : ByteArray) (a m deep item : Nat) (p e : Int) (rb : Nat) (w0 w : World), s.size ≤ 1048576 → a ≤ s.size → m ≤ 4096 → 1 ≤ deep → deep ≤ 129 → item ≤ 65 → 2 * (s.size - a) + 1 ≤ f → Env w0 → Below w0.heap.size w0 w → w0.heap.size ≤ rb → RdB w rb s a m p e →
    (∀ v a' m', pval f s.data.toList a m deep item = .ok v a' m' → Calls Tryz.prog 39 #[.agg #[.pointer (some ⟨rb, 0, none⟩), .int .i64 deep], .int .i64 item] w (VOk s rb p e v a' m' w)) ∧
    (∀ p' e', pval f s.data.toList a m deep item = .bad p' e' → Calls Tryz.prog 39 #[.agg #[.pointer (some ⟨rb, 0, none⟩), .int .i64 deep], .int .i64 item] w (VBad s rb p' e' w))
/-- The end of the items, one or the other. -/
def IPost (s : ByteArray) (rb : Nat) (p e : Int) (R : PR (List V)) (w : World) (en : Ending) (w' : World) : Prop :=
  match R with
  | .ok vs a m => IOk s rb p e vs a m w en w'
  | .bad p' e' => IBad s rb p' e' w en w'

/-- What holds behind next: the mark's block, the reader's, the row of values. -/
structure ItM (w W : World) (rb M : Nat) (kk b d : Nat) (n : Int) (l : List UInt8) (s : ByteArray) (a m p e : Int) (v : Value) (acc : List VT) : Prop where
  kM : Blk W M 54 #[.int .u8 kk, .int .i64 b, .int .i64 d, .int .i64 n, .string (bs l)]
  kB : RdB W rb s a m p e
  g : w.grownBy W (some rb)
  G : Grow 24 w.heap.size v acc W
  hr : rb < w.heap.size
  hM : w.heap.size ≤ M
theorem ItM.held {w W W' : World} {rb M : Nat} {kk b d : Nat} {n : Int} {l : List UInt8} {s : ByteArray} {a m p e : Int} {v : Value} {acc : List VT} (h : ItM w W rb M kk b d n l s a m p e v acc) (hb : Below W.heap.size W W') : ItM w W' rb M kk b d n l s a m p e v acc :=
  ⟨h.kM.below hb h.kM.lt, h.kB.below hb h.kB.lt, only_trans h.g (only_of_below hb _), h.G.below hb, h.hr, h.hM⟩
theorem ItM.drew {w W : World} {rb M : Nat} {kk b d : Nat} {n : Int} {l : List UInt8} {s : ByteArray} {a m p e : Int} {v : Value} {acc : List VT} (h : ItM w W rb M kk b d n l s a m p e v acc) : ItM w W.drew rb M kk b d n l s a m p e v acc :=
  h.held (Below.refl _ _).drew
theorem itm_start {w wr w1 : World} {rb : Nat} {kk b d : Nat} {n : Int} {l : List UInt8} {s : ByteArray} {a m p e : Int} {v : Value} {acc : List VT} (hr : rb < w.heap.size) (hg : w.grownBy wr (some rb)) (hG : Grow 24 w.heap.size v acc wr) (hg1 : wr.grownBy w1 (some rb)) (hR1 : RdB w1 rb s a m p e) :
    ItM w (w1.alloc (.cells #[.int .u8 kk, .int .i64 b, .int .i64 d, .int .i64 n, .string (bs l)] 54)) rb w1.heap.size kk b d n l s a m p e v acc := by
  have h1 := hg.size; have h2 := hg1.size
  exact ⟨Blk.new _ _ _, hR1.alloc _, only_alloc (only_trans hg hg1) _, (hG.only hg1 (fun g q => by injection q with q; omega)).below ((Below.refl _ _).alloc (Nat.le_refl _) _), hr, by omega⟩
theorem Grow.slice {T : TypeId} {B : Nat} {v : Value} {l : List VT} {w : World} (h : Grow T B v l w) : ∃ A c, v = .slice A l.length c := by
  rcases h.own.2 with ⟨e, e2⟩ | ⟨g, cap, cur, e, _⟩
  · have : l.length = 0 := by have := vtsCells_length l; rw [e2] at this; simp at this; omega
    exact ⟨none, 0, by rw [e, this]⟩
  · exact ⟨_, _, e⟩
theorem only_row {a b c : World} {g : Nat} {row : Option Nat} (h : a.grownBy b (some g)) (k : b.grownBy c row) (hr : ∀ r, row = some r → a.heap.size ≤ r) : a.grownBy c (some g) :=
  ⟨k.os.trans h.os, k.tape.trans h.tape, k.output.trans h.output, Nat.le_trans h.size k.size, fun i hi hn => (k.block i (Nat.lt_of_lt_of_le hi h.size) (fun q => by have := hr i q.symm; omega)).trans (h.block i hi hn)⟩
theorem reads_three (w : World) (x y z : Value) (t : TypeId) : Reads (w.alloc (.cells #[x, y, z] t)) (w.heap.size + 1) 3 (some ⟨w.heap.size, 0, none⟩) 1 [x, y, z] :=
  ⟨rfl, fun _ => ⟨⟨w.heap.size, 0, none⟩, rfl, Nat.lt_succ_self _, fun j u hj => by
    match j, hj with
    | 0, hj => simp at hj; subst hj; simp [Addr.add]
    | 1, hj => simp at hj; subst hj; simp [Addr.add]
    | 2, hj => simp at hj; subst hj; simp [Addr.add]
    | j + 3, hj => simp at hj⟩⟩

/-- Reader's place, out of the world. -/
def atOf (w : World) (rb : Nat) : Nat := (intOf ((w.cell? ⟨rb, 1, none⟩).getD undef)).toNat
theorem atOf_blk {w : World} {rb : Nat} {s : ByteArray} {a : Nat} {m p e : Int} (h : RdB w rb s a m p e) : atOf w rb = a := by
  unfold atOf
  have := h.cell 1
  simp at this
  rw [this]
  simp [intOf]

set_option maxRecDepth 100000 in
set_option maxHeartbeats 8000000 in
theorem items_any (F : Nat) (hPV : ∀ f, f < F → PV f) (s : ByteArray) (a m k deep : Nat) (p e : Int) (rb : Nat) (w0 w : World) (hs : s.size ≤ 1048576) (ha : a ≤ s.size) (hm : m ≤ 4096) (hk : k = 3 ∨ k = 4) (hd1 : 1 ≤ deep) (hd : deep ≤ 128) (hf : 2 * (s.size - a) + 2 ≤ F) (hv : Env w0) (hb0 : Below w0.heap.size w0 w) (hrb : w0.heap.size ≤ rb) (hB : RdB w rb s a m p e) :
    Calls Tryz.prog 63 #[.pointer (some ⟨rb, 0, none⟩), .int .u8 k, .func (.func 39) #[.agg #[.pointer (some ⟨rb, 0, none⟩), .int .i64 ((deep : Int) + 1)]] #[]] w (IPost s rb p e (pitems F s.data.toList a m k deep []) w) := by
  obtain ⟨R, hR⟩ : ∃ R, R = pitems F s.data.toList a m k deep [] := ⟨_, rfl⟩
  rw [← hR]
  have HR := Lib.hid hR.symm
  have HP := Lib.hid hPV
  have HV := Lib.hid (And.intro hv (And.intro hb0 hrb))
  have hrl := hB.lt
  clear hR hPV hv hb0 hrb
  generalize hPO : IPost s rb p e R w = PO
  have HPO := Lib.hid hPO
  clear hPO
  have hat := atOf_blk hB
  go_enter Tryz.func63, Tryz.ntmps63
  go_wp2_with fail
  go_loopw [6] (fun v wr => ∃ (a m f : Nat) (acc : List VT), a ≤ s.size ∧ m ≤ 4096 ∧ acc.length ≤ 64 ∧ 2 * (s.size - a) + 2 ≤ f ∧ f ≤ F ∧ RdB wr rb s a m p e ∧ w.grownBy wr (some rb) ∧ Grow 24 w.heap.size v acc wr ∧ Hid (pitems f s.data.toList a m k deep (acc.map (·.1)) = R)) (fun _ wr => s.size - atOf wr rb)
  case atStart => exact ⟨a, m, F, [], ha, hm, Nat.zero_le _, hf, Nat.le_refl _, hB, only_refl _ _, Grow.start _ _, HR.out⟩
  clear HR hB hat ha hm hf a m
  case round =>
    obtain ⟨a, m, f, acc, ha, hm, hacc, hf, hfF, hB, hg, hG, HS⟩ := hrel
    obtain ⟨f, rfl⟩ : ∃ f', f = f' + 1 := ⟨f - 1, by omega⟩
    have hat := atOf_blk hB
    have hbr : Below w0.heap.size w0 wr := below_of_only HV.out.2.1 hg HV.out.2.1.size HV.out.2.2
    have hvr : Env wr := HV.out.1.step hbr
    obtain ⟨A0, c0, rfl⟩ := hG.slice
    obtain ⟨⟨⟨kk, b, d, n, l⟩, pl, er⟩, hx⟩ : ∃ x, nx s.data.toList a = x := ⟨_, rfl⟩
    by_cases her : er = 0
    · subst her
      have HN := Lib.hid (rnext_ok s a m p e rb wr hs ha hvr hB kk b d n l pl hx)
      have HX := Lib.hid (And.intro hg (And.intro hG (And.intro hbr hat)))
      clear hvr hbr hB hg hG hat
      by_cases hsh : shutsK kk
      · have HSh : Hid (∀ W, Calls Tryz.prog 93 #[.agg #[.int .u8 kk, .int .i64 b, .int .i64 d, .int .i64 n, .string (bs l)]] W fun en w' => en = .returned (.bool true) ∧ Below W.heap.size W w') := fun W => by
          have h := shuts_any kk b d n l W
          rw [decide_eq_true hsh] at h
          exact h
        go_wp2_with fail
        refine HN.out.mono ?_
        rintro e' w1 ⟨rfl, hR1, hg1⟩
        have M1 := itm_start (kk := kk) (b := b) (d := d) (n := n) (l := l) hrl HX.out.1 HX.out.2.1 hg1 hR1
        have hSh : ∀ W, ItM w W rb w1.heap.size kk b d n l s a m p e (.slice A0 acc.length c0) acc → Calls Tryz.prog 93 #[.agg #[.int .u8 kk, .int .i64 b, .int .i64 d, .int .i64 n, .string (bs l)]] W fun en w2 => en = .returned (.bool true) ∧ (w2.cell? ⟨w1.heap.size, 0, none⟩ = some (.int .u8 kk) ∧ w2.cell? ⟨w1.heap.size, 1, none⟩ = some (.int .i64 b) ∧ w2.cell? ⟨w1.heap.size, 2, none⟩ = some (.int .i64 d) ∧ w2.cell? ⟨w1.heap.size, 3, none⟩ = some (.int .i64 n) ∧ w2.cell? ⟨w1.heap.size, 4, none⟩ = some (.string (bs l))) ∧ Hid (ItM w w2 rb w1.heap.size kk b d n l s a m p e (.slice A0 acc.length c0) acc) := fun W hW => by
          have h := shuts_any kk b d n l W
          rw [decide_eq_true hsh] at h
          exact h.mono fun en w2 ⟨h1, h2⟩ => ⟨h1, (hW.held h2).kM.five.1, hW.held h2⟩
        have HS1 := Lib.hid (hSh _ M1.drew)
        have HS2 := Lib.hid hSh
        have hBk : ∃ o c bg, ∀ W, ItM w W rb w1.heap.size kk b d n l s a m p e (.slice A0 acc.length c0) acc → Calls Tryz.prog 45 #[.int .u8 k] W fun en w2 => en = .returned (.agg #[.string o, .string c, .int .u8 bg, .int .u8 (overK k : Nat)]) ∧ (w2.cell? ⟨w1.heap.size, 0, none⟩ = some (.int .u8 kk) ∧ w2.cell? ⟨w1.heap.size, 1, none⟩ = some (.int .i64 b) ∧ w2.cell? ⟨w1.heap.size, 2, none⟩ = some (.int .i64 d) ∧ w2.cell? ⟨w1.heap.size, 3, none⟩ = some (.int .i64 n) ∧ w2.cell? ⟨w1.heap.size, 4, none⟩ = some (.string (bs l))) ∧ Hid (ItM w w2 rb w1.heap.size kk b d n l s a m p e (.slice A0 acc.length c0) acc) := by
          rcases hk with rfl | rfl
          · exact ⟨_, _, _, fun W hW => (brackets_tuple W).mono fun en w2 ⟨h1, h2⟩ => ⟨h1, (hW.held h2).kM.five.1, hW.held h2⟩⟩
          · exact ⟨_, _, _, fun W hW => (brackets_list W 4 (by decide)).mono fun en w2 ⟨h1, h2⟩ => ⟨h1, (hW.held h2).kM.five.1, hW.held h2⟩⟩
        obtain ⟨ob, cb, bg, hBk⟩ := hBk
        have HB2 := Lib.hid hBk
        have he2 := pitems_e2 (f := f) (l := s.data.toList) (a := a) (m := m) (k := k) (deep := deep) (acc := acc.map (·.1)) hx rfl hsh
        have he3 := pitems_e3 (f := f) (l := s.data.toList) (a := a) (m := m) (k := k) (deep := deep) (acc := acc.map (·.1)) hx rfl hsh
        rw [HS.out] at he2 he3
        have HE := Lib.hid (And.intro he2 he3)
        clear hSh hBk M1 hR1 hg1 HN hx hsh HS he2 he3 hk
        generalize overK k = ov at *
        by_cases hov : kk = ov
        · have o1 : ((kk : Int) == (ov : Int)) = true := beq_iff_eq.2 (by omega)
          have o2 : ((kk : Int) != (ov : Int)) = false := by rw [bne, o1]; rfl
          have HO := Lib.hid hov
          clear hov
          go_wp2_with fail
          have hfd : ∀ W : World, (Instr.field 95 (.agg #[.string ob, .string cb, .int .u8 bg, .int .u8 (ov : Nat)]) 3).run Tryz.prog W = .ok (.int .u8 (ov : Nat)) W := fun _ => by kernel_rfl
          go_region_with (first
            | (go_at_call 93; refine HS1.out.mono ?_; rintro e' w2 ⟨rfl, ⟨y0, y1, y2, y3, y4⟩, HM2⟩)
            | (go_at_call 45; refine (HB2.out _ HM2.out).mono ?_; clear y0 y1 y2 y3 y4; rintro e' w3 ⟨rfl, ⟨y0, y1, y2, y3, y4⟩, HM3⟩))
          all_goals (
            go_wp2_with fail
            refine (HS2.out _ HM3.out).mono ?_
            clear y0 y1 y2 y3 y4
            rintro e' w4 ⟨rfl, ⟨y0, y1, y2, y3, y4⟩, HM4⟩
            have c1 := HM4.out.kB.cell 1
            have f1 := HM4.out.kB.frozen 1
            simp at c1
            go_wp2_with fail
            rw [← HPO.out, HE.out.2 HO.out]
            have M4 := HM4.out
            exact ⟨A0, c0, by show _ = Ending.returned (.tuple #[.slice A0 (acc.map (·.1)).length c0, .bool true]); rw [List.length_map]; first | done | rfl, M4.kB.set_ 1 _, only_setCell M4.g (.inl rfl) _, M4.G.done.1.fresh_keep (only_setCell (only_refl w4 (some rb)) (p := ⟨rb, 1, none⟩) (.inl rfl) _) (Nat.le_refl _) (fun g q => by injection q with q; omega)⟩)
        · have o1 : ((kk : Int) == (ov : Int)) = false := beq_eq_false_iff_ne.2 (by omega)
          have o2 : ((kk : Int) != (ov : Int)) = true := by rw [bne, o1]; rfl
          have HO := Lib.hid hov
          clear hov
          go_wp2_with fail
          have hfd : ∀ W : World, (Instr.field 95 (.agg #[.string ob, .string cb, .int .u8 bg, .int .u8 (ov : Nat)]) 3).run Tryz.prog W = .ok (.int .u8 (ov : Nat)) W := fun _ => by kernel_rfl
          go_region_with (first
            | (go_at_call 93; refine HS1.out.mono ?_; rintro e' w2 ⟨rfl, ⟨y0, y1, y2, y3, y4⟩, HM2⟩)
            | (go_at_call 45; refine (HB2.out _ HM2.out).mono ?_; clear y0 y1 y2 y3 y4; rintro e' w3 ⟨rfl, ⟨y0, y1, y2, y3, y4⟩, HM3⟩))
          all_goals (
            go_wp2_with fail
            refine (fail_any kk b d n l 3 s a m p e rb _ HM3.out.kB).mono ?_
            rintro e' w4 ⟨rfl, hR4, hg4⟩
            have HW := Lib.hid (And.intro hR4 hg4)
            clear hR4 hg4
            go_wp2_with fail
            rw [← HPO.out, HE.out.1 HO.out]
            exact ⟨a, m, rfl, HW.out.1.alloc _, only_alloc (only_trans HM3.out.g HW.out.2) _⟩)
      · have hs4 := pitems_e4 (f := f) (l := s.data.toList) (a := a) (m := m) (k := k) (deep := deep) (acc := acc.map (·.1)) hx rfl hsh
        rw [HS.out, List.length_map] at hs4
        have hPV := HP.out f (by omega) s a m (deep + 1) (acc.length + 1) p e rb w0
        have hends := (read_ends f).1 s.data.toList a m (deep + 1) (acc.length + 1)
        have hmay := (read_may f).1 s.data.toList a m (deep + 1) (acc.length + 1)
        have hitem := fun v a' m' => pval_item (f := f) (l := s.data.toList) (a := a) (m := m) (deep := deep + 1) (item := acc.length + 1) (v := v) (a' := a') (m' := m')
        generalize hpv : pval f s.data.toList a m (deep + 1) (acc.length + 1) = z at *
        have hiw : IntKind.i64.wrap ((acc.length : Int) + 1) = (acc.length : Int) + 1 := IntWalk.i64_in _ ⟨by omega, by omega⟩
        go_wp2_with fail
        refine HN.out.mono ?_
        rintro e' w1 ⟨rfl, hR1, hg1⟩
        have M1 := itm_start (kk := kk) (b := b) (d := d) (n := n) (l := l) hrl HX.out.1 HX.out.2.1 hg1 hR1
        have hSh : ∀ W, ItM w W rb w1.heap.size kk b d n l s a m p e (.slice A0 acc.length c0) acc → Calls Tryz.prog 93 #[.agg #[.int .u8 kk, .int .i64 b, .int .i64 d, .int .i64 n, .string (bs l)]] W fun en w2 => en = .returned (.bool false) ∧ (w2.cell? ⟨w1.heap.size, 0, none⟩ = some (.int .u8 kk) ∧ w2.cell? ⟨w1.heap.size, 1, none⟩ = some (.int .i64 b) ∧ w2.cell? ⟨w1.heap.size, 2, none⟩ = some (.int .i64 d) ∧ w2.cell? ⟨w1.heap.size, 3, none⟩ = some (.int .i64 n) ∧ w2.cell? ⟨w1.heap.size, 4, none⟩ = some (.string (bs l))) ∧ Hid (ItM w w2 rb w1.heap.size kk b d n l s a m p e (.slice A0 acc.length c0) acc) := fun W hW => by
          have h := shuts_any kk b d n l W
          rw [decide_eq_false hsh] at h
          exact h.mono fun en w2 ⟨h1, h2⟩ => ⟨h1, (hW.held h2).kM.five.1, hW.held h2⟩
        have HS1 := Lib.hid (hSh _ M1.drew)
        have HS2 := Lib.hid hSh
        have hcall : ∀ W, ItM w W rb w1.heap.size kk b d n l s a m p e (.slice A0 acc.length c0) acc → (∀ v a' m', z = .ok v a' m' → Calls Tryz.prog 39 #[.agg #[.pointer (some ⟨rb, 0, none⟩), .int .i64 ((deep : Int) + 1)], .int .i64 ((acc.length : Int) + 1)] W (VOk s rb p e v a' m' W)) ∧
            (∀ p' e', z = .bad p' e' → Calls Tryz.prog 39 #[.agg #[.pointer (some ⟨rb, 0, none⟩), .int .i64 ((deep : Int) + 1)], .int .i64 ((acc.length : Int) + 1)] W (VBad s rb p' e' W)) := fun W hW =>
          hPV W hs ha hm (by omega) (by omega) (by omega) (by omega) HV.out.1 (below_of_only HV.out.2.1 hW.g HV.out.2.1.size HV.out.2.2) HV.out.2.2 hW.kB
        have HCL := Lib.hid hcall
        have HZ := Lib.hid (And.intro hs4 (And.intro hends (And.intro hmay hitem)))
        clear hSh M1 hR1 hg1 HN hx hsh HS hs4 hends hmay hitem hcall hPV hpv
        go_wp2_with fail
        first
          | go_region_with (go_at_call 93; refine HS1.out.mono ?_; rintro e' w2 ⟨rfl, ⟨y0, y1, y2, y3, y4⟩, HM2⟩)
          | fail
        all_goals (
          go_wp2_with fail
          refine (HS2.out _ HM2.out).mono ?_
          clear y0 y1 y2 y3 y4
          rintro e' w3 ⟨rfl, ⟨y0, y1, y2, y3, y4⟩, HM3⟩
          clear y0 y1 y2 y3 y4
          go_wp2_with fail
          cases z with
          | bad p' e' =>
            refine ((HCL.out _ HM3.out).2 p' e' rfl).mono ?_
            rintro e' w4 ⟨uk, un, a4, m4, rfl, hR4, hg4⟩
            have HW := Lib.hid (And.intro hR4 hg4)
            clear hR4 hg4
            go_wp2_with fail
            rw [← HPO.out, HZ.out.1]
            exact ⟨a4, m4, rfl, HW.out.1.alloc _, only_alloc (only_trans HM3.out.g HW.out.2) _⟩
          | ok v a' m' =>
            refine ((HCL.out _ HM3.out).1 v a' m' rfl).mono ?_
            rintro e' w4 ⟨A, c, he, hR4, hg4, hV4⟩
            change e' = .returned (.tuple #[.agg #[.int .u8 v.k, .int .i64 v.n, .slice A v.l.length c], .bool true]) at he
            subst he
            obtain ⟨he1, he2⟩ := HZ.out.2.1 _ _ _ ha rfl
            have he3 : a' ≤ s.size := by simpa using he2
            have hm4 := (HZ.out.2.2.1 _ _ _ ha rfl).2.2.2.1
            have hi4 := HZ.out.2.2.2 _ _ _ rfl
            obtain ⟨q0, hq, hz0, hz1, hz2⟩ := info_parts (P := Tryz.prog) (e := 24) (z := .agg #[.int .u8 0, .int .i64 0, .slice none 0 0]) (size := 3) (bytes := 40) (by kernel_rfl)
            have HU : Tryz.prog.underlying 22 = some (.slice 24) := by kernel_rfl
            have hG3 := HM3.out.G
            have hs3 := HM3.out.g.size
            have hg5 := only_trans HM3.out.g hg4
            have hs5 := hg5.size
            have hb6 := ((Below.refl w4.heap.size w4).alloc (Nat.le_refl _) (.cells #[.int .u8 v.k, .int .i64 v.n, .slice A v.l.length c] 24)).alloc (by simp) (.cells #[.int .u8 v.k, .int .i64 v.n, .slice A v.l.length c] 24)
            have hG6 := (hG3.only hg4 (fun g q => by injection q with q; omega)).below hb6
            have hV6 : Vsp ((w4.alloc (.cells #[.int .u8 v.k, .int .i64 v.n, .slice A v.l.length c] 24)).alloc (.cells #[.int .u8 v.k, .int .i64 v.n, .slice A v.l.length c] 24)) (fun q => Fr w.heap.size ((w4.alloc (.cells #[.int .u8 v.k, .int .i64 v.n, .slice A v.l.length c] 24)).alloc (.cells #[.int .u8 v.k, .int .i64 v.n, .slice A v.l.length c] 24)) q ∧ (Value.slice A0 acc.length c0).ownBlock ≠ some q) A v.l :=
              hV4.keep (fun q hq => ⟨⟨Nat.le_trans hs3 hq.1, by have := hq.2; simp; omega⟩, fun h => by have := (hG3.own.lt q h).2; have := hq.1; omega⟩) (fun q hq => hb6.block q hq.2)
            have hRd : Reads ((w4.alloc (.cells #[.int .u8 v.k, .int .i64 v.n, .slice A v.l.length c] 24)).alloc (.cells #[.int .u8 v.k, .int .i64 v.n, .slice A v.l.length c] 24)) (w4.heap.size + 2) 3 (some ⟨w4.heap.size + 1, 0, none⟩) 1 [.int .u8 v.k, .int .i64 v.n, .slice A v.l.length c] := by
              have h := reads_three (w4.alloc (.cells #[.int .u8 v.k, .int .i64 v.n, .slice A v.l.length c] 24)) (.int .u8 v.k) (.int .i64 v.n) (.slice A v.l.length c) 24
              rwa [World.size_alloc] at h
            have hn6 : ∀ r, (Value.slice A0 acc.length c0).ownBlock = some r → w.heap.size ≤ r := fun r q => (hG6.own.lt r q).1
            have hR6 := (hR4.alloc (.cells #[.int .u8 v.k, .int .i64 v.n, .slice A v.l.length c] 24)).alloc (.cells #[.int .u8 v.k, .int .i64 v.n, .slice A v.l.length c] 24)
            have hg6 := only_alloc (only_alloc hg5 (.cells #[.int .u8 v.k, .int .i64 v.n, .slice A v.l.length c] 24)) (.cells #[.int .u8 v.k, .int .i64 v.n, .slice A v.l.length c] 24)
            have hs6 : w.heap.size ≤ ((w4.alloc (.cells #[.int .u8 v.k, .int .i64 v.n, .slice A v.l.length c] 24)).alloc (.cells #[.int .u8 v.k, .int .i64 v.n, .slice A v.l.length c] 24)).heap.size := by simp; omega
            have HH := Lib.hid (And.intro hG6 (And.intro hV6 (And.intro hRd (And.intro hn6 (And.intro hR6 (And.intro hg6 hs6))))))
            clear hR4 hg4 hV4 hG3 hs3 hg5 hs5 hb6 hG6 hV6 hRd hn6 hR6 hg6 hs6
            go_wp2_with (first
              | (at_builtin; refine wpList_append_any _ rfl _ _ 22 rfl w.heap.size 24 q0 (.agg #[.int .u8 0, .int .i64 0, .slice none 0 0]) 3 40 HU hq hz0 hz1 hz2 rfl (by decide) _ _ _ rfl HH.out.1.own (w4.heap.size + 2) (some ⟨w4.heap.size + 1, 0, none⟩) 1 1 [.int .u8 v.k, .int .i64 v.n, .slice A v.l.length c] rfl HH.out.2.2.1 (fun u hu => by simp at hu; rcases hu with rfl | rfl | rfl <;> rfl) (by unfold maxLen; omega) (by omega) HH.out.2.2.2.2.2.2 ?_; intro v7 w7 hown7 hgrow7 hv7
                 have hG7 := Grow.snoc (t := (v, A, c)) HH.out.1 HH.out.2.1 hown7 hgrow7 hv7
                 have hB7 := HH.out.2.2.2.2.1.grown hgrow7 (fun q => by have := HH.out.2.2.2.1 rb q.symm; omega)
                 have hg7 := only_row HH.out.2.2.2.2.2.1 hgrow7 HH.out.2.2.2.1
                 have X := Lib.hid (And.intro hG7 (And.intro hB7 hg7))
                 clear hG7 hB7 hg7 hown7 hgrow7 hv7))
            go_roundw
            case rel => exact ⟨a', m', f, acc ++ [(v, A, c)], he3, hm4, by rw [List.length_append, List.length_singleton]; omega, by omega, by omega, X.out.2.1, X.out.2.2, X.out.1, by show _ = _; rw [List.map_append]; exact HZ.out.1.symm⟩
            case measure => rw [atOf_blk X.out.2.1, HX.out.2.2.2]; omega)
    · have HN := Lib.hid (rnext_bad s a m p e rb wr hs ha hvr hB kk b d n l pl er her hx)
      have hr := HS.out
      rw [pitems_e1 hx her] at hr
      have HX := Lib.hid (And.intro hg hr)
      clear hvr hbr hB hg hG hat HS hx her
      go_wp2_with fail
      refine HN.out.mono ?_
      rintro e' w1 ⟨rfl, hR1, hg1⟩
      have HW := Lib.hid (And.intro hR1 hg1)
      clear hR1 hg1
      go_wp2_with fail
      rw [← HPO.out, ← HX.out.2]
      exact ⟨a, m, rfl, HW.out.1.alloc _, only_alloc (only_trans HX.out.1 HW.out.2) _⟩
end Go.Proofs.YtbhekkkijomglaaGreatDoor
