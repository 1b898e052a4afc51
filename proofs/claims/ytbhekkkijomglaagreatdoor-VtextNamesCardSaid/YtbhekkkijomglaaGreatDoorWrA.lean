/- The walk of write: every value. -/
import Derived.Test.YtbhekkkijomglaaGreatDoorBldKZ
import Derived.Test.YtbhekkkijomglaaGreatDoorValAZ
import Derived.Test.YtbhekkkijomglaaGreatDoorVtR
namespace Go.Proofs.YtbhekkkijomglaaGreatDoor
open Go.RowKit

/-- write writes this value's text. -/
def WriteOk (x : V) : Prop := ∀ (w0 w : World) (B b : Nat) (acc : List UInt8) (A : Option Addr) (c : Nat), Env w0 → Below w0.heap.size w0 w → w0.heap.size ≤ B → B ≤ w.heap.size →
    Lib.IsBuilderF 62 5 B b (Lib.byteCells acc) w → acc.length + x.text.length ≤ 1000000000 → Vsl w B A x.l →
    Calls Tryz.prog 31 #[.pointer (some ⟨b, 0, none⟩), vAgg x A c] w fun e w' => e = .returned (.tuple #[]) ∧ (Lib.BuilderAtF 62 5 B b (.pointer (some ⟨b, 0, none⟩)) (Lib.byteCells (acc ++ x.text)) w' ∧ Below B w w' ∧ Lib.OthersKept 5 (some b) w w')

theorem texts_step {l : List V} {j : Nat} {x : V} (h : l[j]? = some x) : V.texts (j == 0) (l.drop j) = (if 0 < j then [32] else []) ++ (x.text ++ V.texts (j + 1 == 0) (l.drop (j + 1))) := by
  rw [drop_cons h, V.texts]
  have e2 : (j + 1 == 0) = false := rfl
  rw [e2]
  cases j with
  | zero => rfl
  | succ j => rfl
theorem kept_blk {w w' : World} {b g : Nat} {t : TypeId} {cs : Array Value} {e : TypeId} (h : Lib.OthersKept e (some b) w w') (hk : Blk w g t cs) (hb : g ≠ b) (ht : t ≠ e) : Blk w' g t cs :=
  h g _ hk (fun q => hb (Option.some.inj q)) (fun _ _ q => by injection q with _ q _; exact ht q)

set_option maxRecDepth 100000 in
set_option maxHeartbeats 1000000 in
theorem write_row (k : Nat) (l : List V) (ob sb : UInt8) (bg ov : Nat) (hk1 : k ≠ 1) (hk2 : k ≠ 2)
    (hbr : ∀ W, Calls Tryz.prog 45 #[.int .u8 k] W fun e w' => e = .returned (.agg #[.string ⟨#[ob]⟩, .string ⟨#[sb]⟩, .int .u8 bg, .int .u8 ov]) ∧ Below W.heap.size W w')
    (hl : l.length ≤ 64) (ih : ∀ x ∈ l, WriteOk x) (w0 w : World) (B b : Nat) (acc : List UInt8) (A : Option Addr) (c : Nat) (hv : Env w0) (hb0 : Below w0.heap.size w0 w) (hB0 : w0.heap.size ≤ B) (hB : B ≤ w.heap.size)
    (hbl : Lib.IsBuilderF 62 5 B b (Lib.byteCells acc) w) (hac : acc.length + (ob :: (V.texts true l ++ [sb])).length ≤ 1000000000) (hA : Vsl w B A l) :
    Calls Tryz.prog 31 #[.pointer (some ⟨b, 0, none⟩), .agg #[.int .u8 k, .int .i64 0, .slice A l.length c]] w fun e w' => e = .returned (.tuple #[]) ∧ (Lib.BuilderAtF 62 5 B b (.pointer (some ⟨b, 0, none⟩)) (Lib.byteCells (acc ++ ob :: (V.texts true l ++ [sb]))) w' ∧ Below B w w' ∧ Lib.OthersKept 5 (some b) w w') := by
  have HBr := Lib.hid hbr
  have IH := Lib.hid ih
  clear hbr ih
  have hk1' : ((k : Int) == 1) = false := beq_eq_false_iff_ne.2 (by omega)
  have hk2' : ((k : Int) == 2) = false := beq_eq_false_iff_ne.2 (by omega)
  obtain ⟨R, hR⟩ : ∃ R, R = acc ++ ob :: (V.texts true l) := ⟨_, rfl⟩
  have hfin : acc ++ ob :: (V.texts true l ++ [sb]) = R ++ [sb] := by rw [hR]; simp
  have hRl : R.length + 1 ≤ 1000000000 := by rw [hR]; simp at hac ⊢; omega
  have hst : acc ++ [ob] ++ V.texts (0 == 0) (l.drop 0) = R := by rw [hR]; simp
  rw [hfin]
  have HST := Lib.hid hst
  have hacl : acc.length + 1 ≤ R.length := by rw [hR]; simp
  clear hR hfin hac hst
  have hblt := hbl.elim (fun x => x.lt) (fun x => x.lt)
  go_enter Tryz.func31, Tryz.ntmps31
  go_wp2_with fail
  refine (HBr.out _).mono ?_
  rintro e w1 ⟨rfl, hb1⟩
  have hb2 : Below w.heap.size w (w1.alloc (.cells #[.string ⟨#[ob]⟩, .string ⟨#[sb]⟩, .int .u8 bg, .int .u8 ov] 95)) := (((Below.refl w.heap.size w).alloc (Nat.le_refl _) _).trans (hb1.mono (by simp))).alloc (by have := hb1.size; simp at this; omega) _
  have hw1s : w.heap.size < w1.heap.size := by have := hb1.size; simp at this; omega
  have hpb := Blk.new w1 95 #[.string ⟨#[ob]⟩, .string ⟨#[sb]⟩, .int .u8 bg, .int .u8 ov]
  have hvb : Blk (w1.alloc (.cells #[.string ⟨#[ob]⟩, .string ⟨#[sb]⟩, .int .u8 bg, .int .u8 ov] 95)) w.heap.size 24 #[.int .u8 k, .int .i64 0, .slice A l.length c] := ((Blk.new w 24 #[.int .u8 k, .int .i64 0, .slice A l.length c]).below hb1 (by simp)).alloc _
  go_wp2_with fail
  refine (write_k B b _ (bs [ob]) _ (bld_held hbl hb2) (by rw [bs_size, Lib.byteCells_length]; simp; omega) (Nat.le_trans hB hb2.size)).mono ?_
  rintro e w2 ⟨rfl, hB2, hb3, hk3⟩
  rw [Lib.strCells_eq, bs_list, show Lib.byteCells acc ++ Lib.byteCells [ob] = Lib.byteCells (acc ++ [ob]) by simp [Lib.byteCells]] at hB2
  have hpb2 := kept_blk hk3 hpb (by omega) (by decide)
  have hvb2 := kept_blk hk3 hvb (by omega) (by decide)
  have cbx : w2.cell? ⟨w.heap.size, 2, none⟩ = some (.slice A l.length c) := hvb2.cell 2
  have hbw2 := (hb2.mono hB).trans hb3
  have hkw2 := ((Lib.OthersKept.refl 5 (some b) w).below hb2).trans hk3
  have hpn : w1.heap.size ≠ b := by omega
  clear hb1 hb2 hb3 hk3 hpb hvb hvb2
  generalize w1.heap.size = pb at *
  go_wp2_with fail
  go_loopw [35] (fun i wr => ∃ (j : Nat) (cur : List UInt8), i = .int .i64 j ∧ j ≤ l.length ∧ Lib.BuilderAtF 62 5 B b (.pointer (some ⟨b, 0, none⟩)) (Lib.byteCells cur) wr ∧ Below B w wr ∧ Lib.OthersKept 5 (some b) w wr ∧ Blk wr pb 95 #[.string ⟨#[ob]⟩, .string ⟨#[sb]⟩, .int .u8 bg, .int .u8 ov] ∧ Hid (cur ++ V.texts (j == 0) (l.drop j) = R)) (fun i _ => l.length - (intOf i).toNat)
  case atStart => exact ⟨0, acc ++ [ob], rfl, Nat.zero_le _, hB2, hbw2, hkw2, hpb2, HST.out⟩
  clear hB2 hbw2 hkw2 hpb2 cbx HST w2 w1
  case round =>
    obtain ⟨j, cur, rfl, hj, hbld, hbw, hkw, hpw, HS⟩ := hrel
    have hcl : cur.length ≤ R.length := by rw [← HS.out, List.length_append]; omega
    by_cases hlt : j < l.length
    · obtain ⟨y, hy⟩ : ∃ y, l[j]? = some y := ⟨l[j], List.getElem?_eq_getElem hlt⟩
      have hs := HS.out
      rw [texts_step hy] at hs
      obtain ⟨g1, o1, A1, d1, rfl, hg1, p0, p1, p2, hA1⟩ := (hA.held hbw).at_ hy
      have hmem : y ∈ l := List.mem_of_getElem? hy
      have hsl := congrArg List.length hs
      simp only [List.length_append] at hsl
      have HC : Hid (∀ (W : World) (cu : List UInt8), Below B w W → Lib.BuilderAtF 62 5 B b (.pointer (some ⟨b, 0, none⟩)) (Lib.byteCells cu) W → cu.length + y.text.length ≤ 1000000000 → Vsl W B A1 y.l → Calls Tryz.prog 31 #[.pointer (some ⟨b, 0, none⟩), .agg #[.int .u8 y.k, .int .i64 y.n, .slice A1 y.l.length d1]] W fun e w' => e = .returned (.tuple #[]) ∧ (Lib.BuilderAtF 62 5 B b (.pointer (some ⟨b, 0, none⟩)) (Lib.byteCells (cu ++ y.text)) w' ∧ Below B W w' ∧ Lib.OthersKept 5 (some b) W w')) :=
        fun W cu h1 h2 h3 h4 => IH.out y hmem w0 W B b cu A1 d1 hv (hb0.trans (h1.mono hB0)) hB0 (Nat.le_trans hB h1.size) (.inr h2) h3 h4
      have HA1 := Lib.hid hA1; have HS2 := Lib.hid hs; have HB := Lib.hid hbw; have HKW := Lib.hid hkw; have HPW := Lib.hid hpw; have HBL := Lib.hid hbld; have HSL := Lib.hid hsl
      have j0 : (0 : Int) ≤ (j : Int) := by omega
      have j1 : (j : Int) < (l.length : Int) := by omega
      have hwB : B ≤ wr.heap.size := Nat.le_trans hB hbw.size
      have hwb : b < wr.heap.size := Nat.lt_of_lt_of_le hblt hbw.size
      clear hA1 hs hbw hkw hpw hbld hsl hy hmem hA HS
      by_cases hj0 : j = 0
      · subst hj0
        simp only [Nat.zero_mul, Nat.add_zero] at p0 p1 p2
        go_wp2_with fail
        refine (HC.out _ cur (HB.out.alloc hwB _) (bldAt_held HBL.out ((Below.refl _ _).alloc (Nat.le_refl _) _)) (by have := HSL.out; omega) (HA1.out.alloc hwB _)).mono ?_
        rintro e w3 ⟨rfl, hB3, hb3, hk3⟩
        have hx := Lib.hid (And.intro hB3 (And.intro ((HB.out.alloc hwB _).trans hb3) (And.intro ((HKW.out.alloc _).trans hk3) (kept_blk hk3 (HPW.out.alloc _) hpn (by decide)))))
        clear hB3 hb3 hk3
        go_wp2_with fail
        go_roundw
        case rel => exact ⟨0 + 1, cur ++ y.text, by go_num, by omega, hx.out.1, hx.out.2.1, hx.out.2.2.1, hx.out.2.2.2, by show _ = _; rw [← HS2.out]; simp⟩
        case measure => simp [intOf]; omega
      · have k1 : (0 : Int) < (j : Int) := by omega
        go_wp2_with fail
        have hvb := Blk.new wr 24 #[.int .u8 y.k, .int .i64 y.n, .slice A1 y.l.length d1]
        refine (writebyte_k B b _ 32 _ (.inr (bldAt_held HBL.out ((Below.refl _ _).alloc (Nat.le_refl _) _))) (by rw [Lib.byteCells_length]; omega) (by simp; omega)).mono ?_
        rintro e w3 ⟨rfl, hB3, hb3, hk3⟩
        rw [show Lib.byteCells cur ++ [Value.int .u8 32] = Lib.byteCells (cur ++ [32]) by simp [Lib.byteCells]] at hB3
        have hvb3 := kept_blk hk3 hvb (by omega) (by decide)
        obtain ⟨⟨q0, q1, q2⟩, _⟩ := hvb3.three
        have hx := Lib.hid (And.intro hB3 (And.intro ((HB.out.alloc hwB _).trans hb3) (And.intro ((HKW.out.alloc _).trans hk3) (And.intro (kept_blk hk3 (HPW.out.alloc _) hpn (by decide)) ((HA1.out.alloc hwB _).held hb3)))))
        clear hB3 hb3 hk3 hvb hvb3
        go_wp2_with fail
        refine (HC.out _ (cur ++ [32]) hx.out.2.1 hx.out.1 (by have := HSL.out; rw [if_pos (by omega)] at this; simp at this ⊢; omega) hx.out.2.2.2.2).mono ?_
        rintro e w4 ⟨rfl, hB4, hb4, hk4⟩
        have hx4 := Lib.hid (And.intro hB4 (And.intro (hx.out.2.1.trans hb4) (And.intro (hx.out.2.2.1.trans hk4) (kept_blk hk4 hx.out.2.2.2.1 hpn (by decide)))))
        clear hB4 hb4 hk4
        go_wp2_with fail
        go_roundw
        case rel => exact ⟨j + 1, cur ++ [32] ++ y.text, by go_num, by omega, hx4.out.1, hx4.out.2.1, hx4.out.2.2.1, hx4.out.2.2.2, by show _ = _; rw [← HS2.out, if_pos (by omega)]; simp⟩
        case measure => simp [intOf]; omega
    · obtain rfl : j = l.length := by omega
      have hs := HS.out
      rw [List.drop_length, V.texts, List.append_nil] at hs
      subst hs
      obtain c1 : wr.cell? ⟨pb, 1, none⟩ = some (.string ⟨#[sb]⟩) := hpw.cell 1
      have HB := Lib.hid hbw; have HKW := Lib.hid hkw; have HBL := Lib.hid hbld
      have hwB : B ≤ wr.heap.size := Nat.le_trans hB hbw.size
      clear hbw hkw hpw hbld HS
      go_wp2_with fail
      refine (write_k B b _ (bs [sb]) _ (.inr HBL.out) (by rw [bs_size, Lib.byteCells_length]; simp; omega) hwB).mono ?_
      rintro e w3 ⟨rfl, hB3, hb3, hk3⟩
      rw [Lib.strCells_eq, bs_list, show Lib.byteCells cur ++ Lib.byteCells [sb] = Lib.byteCells (cur ++ [sb]) by simp [Lib.byteCells]] at hB3
      have HX := Lib.hid (And.intro hB3 (And.intro (HB.out.trans hb3) (HKW.out.trans hk3)))
      clear hB3 hb3 hk3
      go_wp2_with fail
      go_end0
      exact ⟨rfl, HX.out⟩

theorem write_ok : ∀ v : V, v.first = 0 → WriteOk v := by
  intro v
  induction v using V.ind with
  | h k n l ih =>
    intro hf w0 w B b acc A c hv hb0 hB0 hB hbl hac hA
    obtain ⟨h0, hs⟩ := first_node hf
    change Vsl w B A l at hA
    show Calls Tryz.prog 31 #[.pointer (some ⟨b, 0, none⟩), .agg #[.int .u8 k, .int .i64 n, .slice A l.length c]] w _
    rcases node_cases h0 with ⟨rfl, rfl, hn⟩ | ⟨rfl, rfl, hn⟩ | ⟨hk, rfl, hl⟩
    · have ht : (V.mk 1 n []).text = Lib.itoa n := by rw [V.text, if_pos rfl]
      rw [ht] at hac ⊢
      exact write_num B b acc n w (hv.step hb0) hn hB hbl hac A c
    · rcases hn with rfl | rfl
      · have ht : (V.mk 2 0 []).text = [102, 97, 108, 115, 101] := by rw [V.text]; rfl
        rw [ht] at hac ⊢
        exact write_bool0 B b acc w hB hbl (by simp at hac; omega) A c
      · have ht : (V.mk 2 1 []).text = [116, 114, 117, 101] := by rw [V.text]; rfl
        rw [ht] at hac ⊢
        exact write_bool1 B b acc w hB hbl (by simp at hac; omega) A c
    · have ht : (V.mk k 0 l).text = openB k :: (V.texts true l ++ [shutB k]) := by rw [V.text, if_neg (by omega), if_neg (by omega)]
      rw [ht] at hac ⊢
      rcases hk with rfl | rfl
      · exact write_row 3 l 60 62 5 6 (by decide) (by decide) brackets_tuple hl (fun x hx => ih x hx (hs x hx)) w0 w B b acc A c hv hb0 hB0 hB hbl hac hA
      · exact write_row 4 l 91 93 3 4 (by decide) (by decide) (fun W => brackets_list W 4 (by decide)) hl (fun x hx => ih x hx (hs x hx)) w0 w B b acc A c hv hb0 hB0 hB hbl hac hA
end Go.Proofs.YtbhekkkijomglaaGreatDoor
