/- Put together: WrA, ShV, AwA. -/
import Derived.Test.YtbhekkkijomglaaGreatDoorBldBZ
import Derived.Test.YtbhekkkijomglaaGreatDoorRdBZ
import Derived.Test.YtbhekkkijomglaaGreatDoorVtRZ
import Derived.Test.YtbhekkkijomglaaGreatDoorValCZ
import Derived.Test.YtbhekkkijomglaaGreatDoorRtKZ
import Derived.Test.YtbhekkkijomglaaGreatDoorRdLZ
import Derived.Lib.ItoaLen
namespace Go.Proofs.YtbhekkkijomglaaGreatDoor
/-! The walk of write: every value. -/
section
open Go.RowKit

/-- write writes this value's text. -/
def WriteOk (x : V) : Prop := ∀ (w0 w : World) (B b : Nat) (acc : List UInt8) (A : Option Addr) (c : Nat), Env w0 → Below w0.heap.size w0 w → w0.heap.size ≤ B → B ≤ w.heap.size →
    Lib.IsBuilderF 62 5 B b (Lib.byteCells acc) w → acc.length + x.text.length ≤ 1000000000 → Vsl w B A x.l →
    Calls Tryz.prog 31 #[.pointer (some ⟨b, 0, none⟩), vAgg x A c] w fun e w' => e = .returned (.tuple #[]) ∧ (Lib.BuilderAtF 62 5 B b (.pointer (some ⟨b, 0, none⟩)) (Lib.byteCells (acc ++ x.text)) w' ∧ Below B w w' ∧ Lib.OthersKept 5 (some b) w w')

theorem texts_step {l : List V} {j : Nat} {x : V} (h : l[j]? = some x) : V.texts (j == 0) (l.drop j) = (if 0 < j then [32] else []) ++ (x.text ++ V.texts (j + 1 == 0) (l.drop (j + 1))) := by
  rw [drop_cons h, V.texts]
  have e2 : (j + 1 == 0) = false := rfl
  rw [e2]
  cases j with
  | zero => rfl
  | succ j => rfl
theorem kept_blk {w w' : World} {b g : Nat} {t : TypeId} {cs : Array Value} {e : TypeId} (h : Lib.OthersKept e (some b) w w') (hk : Blk w g t cs) (hb : g ≠ b) (ht : t ≠ e) : Blk w' g t cs :=
  h g _ hk (fun q => hb (Option.some.inj q)) (fun _ _ q => by injection q with _ q _; exact ht q)

set_option maxRecDepth 100000 in
set_option maxHeartbeats 1000000 in
theorem write_row (k : Nat) (l : List V) (ob sb : UInt8) (bg ov : Nat) (hk1 : k ≠ 1) (hk2 : k ≠ 2)
    (hbr : ∀ W, Calls Tryz.prog 45 #[.int .u8 k] W fun e w' => e = .returned (.agg #[.string ⟨#[ob]⟩, .string ⟨#[sb]⟩, .int .u8 bg, .int .u8 ov]) ∧ Below W.heap.size W w')
    (hl : l.length ≤ 64) (ih : ∀ x ∈ l, WriteOk x) (w0 w : World) (B b : Nat) (acc : List UInt8) (A : Option Addr) (c : Nat) (hv : Env w0) (hb0 : Below w0.heap.size w0 w) (hB0 : w0.heap.size ≤ B) (hB : B ≤ w.heap.size)
    (hbl : Lib.IsBuilderF 62 5 B b (Lib.byteCells acc) w) (hac : acc.length + (ob :: (V.texts true l ++ [sb])).length ≤ 1000000000) (hA : Vsl w B A l) :
    Calls Tryz.prog 31 #[.pointer (some ⟨b, 0, none⟩), .agg #[.int .u8 k, .int .i64 0, .slice A l.length c]] w fun e w' => e = .returned (.tuple #[]) ∧ (Lib.BuilderAtF 62 5 B b (.pointer (some ⟨b, 0, none⟩)) (Lib.byteCells (acc ++ ob :: (V.texts true l ++ [sb]))) w' ∧ Below B w w' ∧ Lib.OthersKept 5 (some b) w w') := by
  have HBr := Lib.hid hbr
  have IH := Lib.hid ih
  clear hbr ih
  have hk1' : ((k : Int) == 1) = false := beq_eq_false_iff_ne.2 (by omega)
  have hk2' : ((k : Int) == 2) = false := beq_eq_false_iff_ne.2 (by omega)
  obtain ⟨R, hR⟩ : ∃ R, R = acc ++ ob :: (V.texts true l) := ⟨_, rfl⟩
  have hfin : acc ++ ob :: (V.texts true l ++ [sb]) = R ++ [sb] := by rw [hR]; simp
  have hRl : R.length + 1 ≤ 1000000000 := by rw [hR]; simp at hac ⊢; omega
  have hst : acc ++ [ob] ++ V.texts (0 == 0) (l.drop 0) = R := by rw [hR]; simp
  rw [hfin]
  have HST := Lib.hid hst
  have hacl : acc.length + 1 ≤ R.length := by rw [hR]; simp
  clear hR hfin hac hst
  have hblt := hbl.elim (fun x => x.lt) (fun x => x.lt)
  go_enter Tryz.func31, Tryz.ntmps31
  go_wp2_with fail
  refine (HBr.out _).mono ?_
  rintro e w1 ⟨rfl, hb1⟩
  have hb2 : Below w.heap.size w (w1.alloc (.cells #[.string ⟨#[ob]⟩, .string ⟨#[sb]⟩, .int .u8 bg, .int .u8 ov] 95)) := (((Below.refl w.heap.size w).alloc (Nat.le_refl _) _).trans (hb1.mono (by simp))).alloc (by have := hb1.size; simp at this; omega) _
  have hw1s : w.heap.size < w1.heap.size := by have := hb1.size; simp at this; omega
  have hpb := Blk.new w1 95 #[.string ⟨#[ob]⟩, .string ⟨#[sb]⟩, .int .u8 bg, .int .u8 ov]
  have hvb : Blk (w1.alloc (.cells #[.string ⟨#[ob]⟩, .string ⟨#[sb]⟩, .int .u8 bg, .int .u8 ov] 95)) w.heap.size 24 #[.int .u8 k, .int .i64 0, .slice A l.length c] := ((Blk.new w 24 #[.int .u8 k, .int .i64 0, .slice A l.length c]).below hb1 (by simp)).alloc _
  go_wp2_with fail
  refine (write_k B b _ (bs [ob]) _ (bld_held hbl hb2) (by rw [bs_size, Lib.byteCells_length]; simp; omega) (Nat.le_trans hB hb2.size)).mono ?_
  rintro e w2 ⟨rfl, hB2, hb3, hk3⟩
  rw [Lib.strCells_eq, bs_list, show Lib.byteCells acc ++ Lib.byteCells [ob] = Lib.byteCells (acc ++ [ob]) by simp [Lib.byteCells]] at hB2
  have hpb2 := kept_blk hk3 hpb (by omega) (by decide)
  have hvb2 := kept_blk hk3 hvb (by omega) (by decide)
  have cbx : w2.cell? ⟨w.heap.size, 2, none⟩ = some (.slice A l.length c) := hvb2.cell 2
  have hbw2 := (hb2.mono hB).trans hb3
  have hkw2 := ((Lib.OthersKept.refl 5 (some b) w).below hb2).trans hk3
  have hpn : w1.heap.size ≠ b := by omega
  clear hb1 hb2 hb3 hk3 hpb hvb hvb2
  generalize w1.heap.size = pb at *
  go_wp2_with fail
  go_loopw [35] (fun i wr => ∃ (j : Nat) (cur : List UInt8), i = .int .i64 j ∧ j ≤ l.length ∧ Lib.BuilderAtF 62 5 B b (.pointer (some ⟨b, 0, none⟩)) (Lib.byteCells cur) wr ∧ Below B w wr ∧ Lib.OthersKept 5 (some b) w wr ∧ Blk wr pb 95 #[.string ⟨#[ob]⟩, .string ⟨#[sb]⟩, .int .u8 bg, .int .u8 ov] ∧ Hid (cur ++ V.texts (j == 0) (l.drop j) = R)) (fun i _ => l.length - (intOf i).toNat)
  case atStart => exact ⟨0, acc ++ [ob], rfl, Nat.zero_le _, hB2, hbw2, hkw2, hpb2, HST.out⟩
  clear hB2 hbw2 hkw2 hpb2 cbx HST w2 w1
  case round =>
    obtain ⟨j, cur, rfl, hj, hbld, hbw, hkw, hpw, HS⟩ := hrel
    have hcl : cur.length ≤ R.length := by rw [← HS.out, List.length_append]; omega
    by_cases hlt : j < l.length
    · obtain ⟨y, hy⟩ : ∃ y, l[j]? = some y := ⟨l[j], List.getElem?_eq_getElem hlt⟩
      have hs := HS.out
      rw [texts_step hy] at hs
      obtain ⟨g1, o1, A1, d1, rfl, hg1, p0, p1, p2, hA1⟩ := (hA.held hbw).at_ hy
      have hmem : y ∈ l := List.mem_of_getElem? hy
      have hsl := congrArg List.length hs
      simp only [List.length_append] at hsl
      have HC : Hid (∀ (W : World) (cu : List UInt8), Below B w W → Lib.BuilderAtF 62 5 B b (.pointer (some ⟨b, 0, none⟩)) (Lib.byteCells cu) W → cu.length + y.text.length ≤ 1000000000 → Vsl W B A1 y.l → Calls Tryz.prog 31 #[.pointer (some ⟨b, 0, none⟩), .agg #[.int .u8 y.k, .int .i64 y.n, .slice A1 y.l.length d1]] W fun e w' => e = .returned (.tuple #[]) ∧ (Lib.BuilderAtF 62 5 B b (.pointer (some ⟨b, 0, none⟩)) (Lib.byteCells (cu ++ y.text)) w' ∧ Below B W w' ∧ Lib.OthersKept 5 (some b) W w')) :=
        fun W cu h1 h2 h3 h4 => IH.out y hmem w0 W B b cu A1 d1 hv (hb0.trans (h1.mono hB0)) hB0 (Nat.le_trans hB h1.size) (.inr h2) h3 h4
      have HA1 := Lib.hid hA1; have HS2 := Lib.hid hs; have HB := Lib.hid hbw; have HKW := Lib.hid hkw; have HPW := Lib.hid hpw; have HBL := Lib.hid hbld; have HSL := Lib.hid hsl
      have j0 : (0 : Int) ≤ (j : Int) := by omega
      have j1 : (j : Int) < (l.length : Int) := by omega
      have hwB : B ≤ wr.heap.size := Nat.le_trans hB hbw.size
      have hwb : b < wr.heap.size := Nat.lt_of_lt_of_le hblt hbw.size
      clear hA1 hs hbw hkw hpw hbld hsl hy hmem hA HS
      by_cases hj0 : j = 0
      · subst hj0
        simp only [Nat.zero_mul, Nat.add_zero] at p0 p1 p2
        go_wp2_with fail
        refine (HC.out _ cur (HB.out.alloc hwB _) (bldAt_held HBL.out ((Below.refl _ _).alloc (Nat.le_refl _) _)) (by have := HSL.out; omega) (HA1.out.alloc hwB _)).mono ?_
        rintro e w3 ⟨rfl, hB3, hb3, hk3⟩
        have hx := Lib.hid (And.intro hB3 (And.intro ((HB.out.alloc hwB _).trans hb3) (And.intro ((HKW.out.alloc _).trans hk3) (kept_blk hk3 (HPW.out.alloc _) hpn (by decide)))))
        clear hB3 hb3 hk3
        go_wp2_with fail
        go_roundw
        case rel => exact ⟨0 + 1, cur ++ y.text, by go_num, by omega, hx.out.1, hx.out.2.1, hx.out.2.2.1, hx.out.2.2.2, by show _ = _; rw [← HS2.out]; simp⟩
        case measure => simp [intOf]; omega
      · have k1 : (0 : Int) < (j : Int) := by omega
        go_wp2_with fail
        have hvb := Blk.new wr 24 #[.int .u8 y.k, .int .i64 y.n, .slice A1 y.l.length d1]
        refine (writebyte_k B b _ 32 _ (.inr (bldAt_held HBL.out ((Below.refl _ _).alloc (Nat.le_refl _) _))) (by rw [Lib.byteCells_length]; omega) (by simp; omega)).mono ?_
        rintro e w3 ⟨rfl, hB3, hb3, hk3⟩
        rw [show Lib.byteCells cur ++ [Value.int .u8 32] = Lib.byteCells (cur ++ [32]) by simp [Lib.byteCells]] at hB3
        have hvb3 := kept_blk hk3 hvb (by omega) (by decide)
        obtain ⟨⟨q0, q1, q2⟩, _⟩ := hvb3.three
        have hx := Lib.hid (And.intro hB3 (And.intro ((HB.out.alloc hwB _).trans hb3) (And.intro ((HKW.out.alloc _).trans hk3) (And.intro (kept_blk hk3 (HPW.out.alloc _) hpn (by decide)) ((HA1.out.alloc hwB _).held hb3)))))
        clear hB3 hb3 hk3 hvb hvb3
        go_wp2_with fail
        refine (HC.out _ (cur ++ [32]) hx.out.2.1 hx.out.1 (by have := HSL.out; rw [if_pos (by omega)] at this; simp at this ⊢; omega) hx.out.2.2.2.2).mono ?_
        rintro e w4 ⟨rfl, hB4, hb4, hk4⟩
        have hx4 := Lib.hid (And.intro hB4 (And.intro (hx.out.2.1.trans hb4) (And.intro (hx.out.2.2.1.trans hk4) (kept_blk hk4 hx.out.2.2.2.1 hpn (by decide)))))
        clear hB4 hb4 hk4
        go_wp2_with fail
        go_roundw
        case rel => exact ⟨j + 1, cur ++ [32] ++ y.text, by go_num, by omega, hx4.out.1, hx4.out.2.1, hx4.out.2.2.1, hx4.out.2.2.2, by show _ = _; rw [← HS2.out, if_pos (by omega)]; simp⟩
        case measure => simp [intOf]; omega
    · obtain rfl : j = l.length := by omega
      have hs := HS.out
      rw [List.drop_length, V.texts, List.append_nil] at hs
      subst hs
      obtain c1 : wr.cell? ⟨pb, 1, none⟩ = some (.string ⟨#[sb]⟩) := hpw.cell 1
      have HB := Lib.hid hbw; have HKW := Lib.hid hkw; have HBL := Lib.hid hbld
      have hwB : B ≤ wr.heap.size := Nat.le_trans hB hbw.size
      clear hbw hkw hpw hbld HS
      go_wp2_with fail
      refine (write_k B b _ (bs [sb]) _ (.inr HBL.out) (by rw [bs_size, Lib.byteCells_length]; simp; omega) hwB).mono ?_
      rintro e w3 ⟨rfl, hB3, hb3, hk3⟩
      rw [Lib.strCells_eq, bs_list, show Lib.byteCells cur ++ Lib.byteCells [sb] = Lib.byteCells (cur ++ [sb]) by simp [Lib.byteCells]] at hB3
      have HX := Lib.hid (And.intro hB3 (And.intro (HB.out.trans hb3) (HKW.out.trans hk3)))
      clear hB3 hb3 hk3
      go_wp2_with fail
      go_end0
      exact ⟨rfl, HX.out⟩

theorem write_ok : ∀ v : V, v.first = 0 → WriteOk v := by
  intro v
  induction v using V.ind with
  | h k n l ih =>
    intro hf w0 w B b acc A c hv hb0 hB0 hB hbl hac hA
    obtain ⟨h0, hs⟩ := first_node hf
    change Vsl w B A l at hA
    show Calls Tryz.prog 31 #[.pointer (some ⟨b, 0, none⟩), .agg #[.int .u8 k, .int .i64 n, .slice A l.length c]] w _
    rcases node_cases h0 with ⟨rfl, rfl, hn⟩ | ⟨rfl, rfl, hn⟩ | ⟨hk, rfl, hl⟩
    · have ht : (V.mk 1 n []).text = Lib.itoa n := by rw [V.text, if_pos rfl]
      rw [ht] at hac ⊢
      exact write_num B b acc n w (hv.step hb0) hn hB hbl hac A c
    · rcases hn with rfl | rfl
      · have ht : (V.mk 2 0 []).text = [102, 97, 108, 115, 101] := by rw [V.text]; rfl
        rw [ht] at hac ⊢
        exact write_bool0 B b acc w hB hbl (by simp at hac; omega) A c
      · have ht : (V.mk 2 1 []).text = [116, 114, 117, 101] := by rw [V.text]; rfl
        rw [ht] at hac ⊢
        exact write_bool1 B b acc w hB hbl (by simp at hac; omega) A c
    · have ht : (V.mk k 0 l).text = openB k :: (V.texts true l ++ [shutB k]) := by rw [V.text, if_neg (by omega), if_neg (by omega)]
      rw [ht] at hac ⊢
      rcases hk with rfl | rfl
      · exact write_row 3 l 60 62 5 6 (by decide) (by decide) brackets_tuple hl (fun x hx => ih x hx (hs x hx)) w0 w B b acc A c hv hb0 hB0 hB hbl hac hA
      · exact write_row 4 l 91 93 3 4 (by decide) (by decide) (fun W => brackets_list W 4 (by decide)) hl (fun x hx => ih x hx (hs x hx)) w0 w B b acc A c hv hb0 hB0 hB hbl hac hA
end

/-! The walk of Show: a value's text. -/
section
open Go.RowKit

theorem text_len : ∀ v : V, v.first = 0 → v.text.length + 1 ≤ 23 * v.size := by
  intro v
  induction v using V.ind with
  | h k n l ih =>
    intro h
    obtain ⟨h0, hs⟩ := first_node h
    rw [V.text, V.size]
    by_cases h1 : k = 1
    · rw [if_pos h1]
      subst h1
      have hn : -9223372036854775808 ≤ n ∧ n ≤ 9223372036854775807 := by
        unfold nodeE at h0
        by_cases hq : n < -1099511627776 ∨ 1099511627776 < n
        · rw [if_pos ⟨rfl, hq⟩] at h0; exact absurd h0 (by decide)
        · omega
      have := Lib.itoa_length_le n hn.1 hn.2
      omega
    rw [if_neg h1]
    by_cases h2 : k = 2
    · rw [if_pos h2]
      split
      · show 4 + 1 ≤ _; omega
      · show 5 + 1 ≤ _; omega
    rw [if_neg h2]
    have hw : wide l ≤ 23 * V.sizes l := by
      clear h h0
      induction l with
      | nil => exact Nat.zero_le _
      | cons x r ihr =>
        rw [wide, V.sizes]
        have h1 := ih x List.mem_cons_self (hs x List.mem_cons_self)
        have h2 := ihr (fun y hy => ih y (List.mem_cons_of_mem _ hy)) (fun y hy => hs y (List.mem_cons_of_mem _ hy))
        omega
    have := texts_wide true l
    simp only [List.length_cons, List.length_append, List.length_nil]
    omega

def showAgg (x : List UInt8 × Nat) : Value := .tuple #[.string (bs x.1), .int .i64 x.2]

set_option maxRecDepth 100000 in
set_option maxHeartbeats 1000000 in
theorem vshow_any (v : V) (A : Option Addr) (c : Nat) (w : World) (hv : Env w) (hV : Vsl w w.heap.size A v.l) (hsz : v.size < 1000000) :
    Calls Tryz.prog 13 #[vAgg v A c] w fun e w' => e = .returned (showAgg (showV v)) ∧ Below w.heap.size w w' := by
  have HC := Lib.hid (fun W hW => vcheck_any v A c W hW hsz)
  have HV := Lib.hid hV
  change Hid (∀ W, Vsl W W.heap.size A v.l → Calls Tryz.prog 30 #[.agg #[.int .u8 v.k, .int .i64 v.n, .slice A v.l.length c]] W _) at HC
  show Calls Tryz.prog 13 #[.agg #[.int .u8 v.k, .int .i64 v.n, .slice A v.l.length c]] w fun e w' => e = .returned (showAgg (showV v)) ∧ Below w.heap.size w w'
  have hchk : v.check = 0 → v.first = 0 ∧ v.text.length ≤ 1000000000 := fun h => by
    obtain ⟨h1, _, h3⟩ := check_first h
    have := text_len v h1
    exact ⟨h1, by omega⟩
  have hWr := fun (h : v.check = 0) => write_ok v (hchk h).1
  obtain ⟨R, hR⟩ : ∃ R, R = showV v := ⟨_, rfl⟩
  rw [← hR]
  unfold showV at hR
  have HR := Lib.hid hR; have HW := Lib.hid hWr; have HK := Lib.hid hchk
  clear hWr hV hchk hR
  generalize hE : v.check = E at HC HR HW HK
  clear hE
  go_enter Tryz.func13, Tryz.ntmps13
  by_cases hE : E = 0
  · subst hE
    have hKl := (HK.out rfl).2
    go_wp2_with fail
    refine (HC.out _ ((HV.out.alloc (Nat.le_refl _) _).more (by simp))).mono ?_
    rintro e w1 ⟨rfl, hb1'⟩
    have hb1 := ((Below.refl w.heap.size w).alloc (Nat.le_refl _) (.cells #[.int .u8 v.k, .int .i64 v.n, .slice A v.l.length c] 24)).trans (hb1'.mono (by simp))
    have hvb := ((Blk.new w 24 #[.int .u8 v.k, .int .i64 v.n, .slice A v.l.length c]).below hb1' (by simp)).alloc (.cells #[.pointer none, .slice none 0 0] 62)
    obtain ⟨⟨q0, q1, q2⟩, _⟩ := hvb.three
    clear hb1' hvb
    have hb2 := hb1.alloc hb1.size (.cells #[.pointer none, .slice none 0 0] 62)
    have hA2 := (HV.out.held hb2).more hb1.size
    have hbl : Lib.IsBuilderF 62 5 w1.heap.size w1.heap.size (Lib.byteCells []) (w1.alloc (.cells #[.pointer none, .slice none 0 0] 62)) :=
      .inl ⟨Nat.le_refl _, .slice none 0 0, heap_alloc_new w1 _, ⟨by simp [Lib.byteCells], .inl ⟨rfl, rfl⟩⟩, by simp [Value.ownBlock]⟩
    go_wp2_with fail
    refine (HW.out (by trivial) w _ w1.heap.size w1.heap.size [] A c hv hb2 hb1.size (by simp) hbl (by simp; omega) hA2).mono ?_
    rintro e w2 ⟨rfl, hB2, hb3, _⟩
    have hx := hb2.trans (((Below.refl _ _).trans hb3).mono hb1.size)
    rw [List.nil_append] at hB2
    generalize v.text = acc at *
    rw [if_neg (by simp)] at HR
    have hbld := Or.inr (a := Lib.BuilderAtF 62 5 w1.heap.size w1.heap.size (.pointer none) (Lib.byteCells acc) w2) hB2
    have hsz1 : w1.heap.size ≤ w2.heap.size := by have := hb3.size; simp at this; omega
    have hw1 := hb1.size
    clear hb1 hb2 hb3 hB2 hA2 hbl
    by_cases hlong : 65536 < acc.length
    · rw [if_pos hlong] at HR
      have hl1 : (65536 : Int) < ((Lib.byteCells acc).length : Int) := by rw [Lib.byteCells_length]; omega
      go_wp2_with fail
      refine (Tryz.Builder_Len_f w1.heap.size w1.heap.size _ _ hbld).mono ?_
      rintro e' w3 ⟨rfl, hw⟩
      subst hw
      go_wp2_with fail
      refine bodyPost_ret (v := .tuple #[.string ⟨#[]⟩, .int .i64 5]) (by simp [results, Tryz.results13, go_sem]) rfl ⟨by rw [HR.out]; rfl, hx⟩
    · rw [if_neg hlong] at HR
      have hl1 : ¬ (65536 : Int) < ((Lib.byteCells acc).length : Int) := by rw [Lib.byteCells_length]; omega
      go_wp2_with fail
      refine (Tryz.Builder_Len_f w1.heap.size w1.heap.size _ _ hbld).mono ?_
      rintro e' w3 ⟨rfl, hw⟩
      subst hw
      go_wp2_with fail
      refine (Tryz.Builder_String_any_f w1.heap.size w1.heap.size acc _ hbld hsz1).mono ?_
      rintro e' w4 ⟨rfl, _, hb4⟩
      go_wp2_with fail
      refine bodyPost_ret (v := .tuple #[.string (bs acc), .int .i64 0]) (by simp [results, Tryz.results13, go_sem, bs]) rfl ⟨by rw [HR.out]; rfl, hx.trans (hb4.mono hw1)⟩
  · rw [if_pos hE] at HR
    have hne : ((E : Int) == 0) = false := beq_eq_false_iff_ne.2 (by omega)
    have hne' : ((E : Int) != 0) = true := bne_iff_ne.2 (by omega)
    go_wp2_with fail
    refine (HC.out _ ((HV.out.alloc (Nat.le_refl _) _).more (by simp))).mono ?_
    rintro e w1 ⟨rfl, hb1'⟩
    have hb1 := ((Below.refl w.heap.size w).alloc (Nat.le_refl _) (.cells #[.int .u8 v.k, .int .i64 v.n, .slice A v.l.length c] 24)).trans (hb1'.mono (by simp))
    clear hb1'
    go_wp2_with fail
    refine bodyPost_ret (v := .tuple #[.string ⟨#[]⟩, .int .i64 E]) (by simp [results, Tryz.results13, go_sem]) rfl ⟨by rw [HR.out]; rfl, hb1⟩
end

/-! The walks of num, ex, refused. -/
section
open Go.RowKit

set_option maxRecDepth 100000 in
set_option maxHeartbeats 2000000 in
theorem tnum_any (n : Int) (w : World) : Calls Tryz.prog 22 #[.int .i64 n] w fun e w' => e = .returned (.agg #[.int .u8 1, .int .i64 n, .slice none 0 0]) ∧ Below w.heap.size w w' := by
  have hb0 : Hid (∀ o, Below w.heap.size w (w.alloc o)) := fun o => (Below.refl w.heap.size w).alloc (Nat.le_refl _) o
  go_enter Tryz.func22, Tryz.ntmps22
  go_wp2_with fail
  refine bodyPost_ret (v := .agg #[.int .u8 1, .int .i64 n, .slice none 0 0]) (by simp [results, Tryz.results22, go_sem]) rfl ⟨rfl, ?_⟩
  exact hb0.out _

theorem ex_vsl {w : World} {g1 g2 : Nat} (h1 : Blk w g1 24 #[.int .u8 2, .int .i64 1, .slice none 0 0, .int .u8 1, .int .i64 (-2), .slice none 0 0]) (h2 : Blk w g2 24 #[.int .u8 1, .int .i64 1, .slice none 0 0, .int .u8 4, .int .i64 0, .slice (some ⟨g1, 0, none⟩) 2 2]) :
    Vsl w w.heap.size (some ⟨g2, 0, none⟩) exV.l := by
  have hin : Vsl w w.heap.size (some ⟨g1, 0, none⟩) [.mk 2 1 [], .mk 1 (-2) []] := by
    refine .row g1 0 _ (fun _ => none) (fun _ => 0) h1.lt (fun i x hx => ?_) (fun i x hx => ?_)
    · match i, hx with
      | 0, hx => simp at hx; subst hx; exact ⟨h1.cell 0, h1.cell 1, h1.cell 2⟩
      | 1, hx => simp at hx; subst hx; exact ⟨h1.cell 3, h1.cell 4, h1.cell 5⟩
      | i + 2, hx => simp at hx
    · match i, hx with
      | 0, hx => simp at hx; subst hx; exact .emp _
      | 1, hx => simp at hx; subst hx; exact .emp _
      | i + 2, hx => simp at hx
  refine .row g2 0 _ (fun i => if i = 1 then some ⟨g1, 0, none⟩ else none) (fun i => if i = 1 then 2 else 0) h2.lt (fun i x hx => ?_) (fun i x hx => ?_)
  · match i, hx with
    | 0, hx => simp [exV, V.l] at hx; subst hx; exact ⟨h2.cell 0, h2.cell 1, h2.cell 2⟩
    | 1, hx => simp [exV, V.l] at hx; subst hx; exact ⟨h2.cell 3, h2.cell 4, h2.cell 5⟩
    | i + 2, hx => simp [exV, V.l] at hx
  · match i, hx with
    | 0, hx => simp [exV, V.l] at hx; subst hx; exact .emp _
    | 1, hx => simp [exV, V.l] at hx; subst hx; exact hin
    | i + 2, hx => simp [exV, V.l] at hx

set_option maxRecDepth 100000 in
set_option maxHeartbeats 2000000 in
theorem ex_any (w : World) : Calls Tryz.prog 28 #[] w fun e w' => (∃ A c, e = .returned (.agg #[.int .u8 3, .int .i64 0, .slice A 2 c]) ∧ Vsl w' w'.heap.size A exV.l) ∧ Below w.heap.size w w' := by
  have HN := Lib.hid tnum_any
  go_enter Tryz.func28, Tryz.ntmps28
  go_wp2_with fail
  refine (HN.out 1 _).mono ?_
  rintro e w1 ⟨rfl, hb1⟩
  go_wp2_with fail
  refine (HN.out (-2) _).mono ?_
  rintro e w2 ⟨rfl, hb2⟩
  have r1 := res_held hb1
  have r2 := res_below r1 hb2
  have k1 := Blk.new w2 24 #[.int .u8 2, .int .i64 1, .slice none 0 0, .int .u8 1, .int .i64 (-2), .slice none 0 0]
  have k1' := k1.alloc (.cells #[.int .u8 1, .int .i64 1, .slice none 0 0, .int .u8 4, .int .i64 0, .slice (some ⟨w2.heap.size, 0, none⟩) 2 2] 24)
  have k2 := Blk.new (w2.alloc (.cells #[.int .u8 2, .int .i64 1, .slice none 0 0, .int .u8 1, .int .i64 (-2), .slice none 0 0] 24)) 24 #[.int .u8 1, .int .i64 1, .slice none 0 0, .int .u8 4, .int .i64 0, .slice (some ⟨w2.heap.size, 0, none⟩) 2 2]
  rw [World.size_alloc] at k2
  have r3 := res_below r2 (((Below.refl w2.heap.size w2).alloc (Nat.le_refl _) (.cells #[.int .u8 2, .int .i64 1, .slice none 0 0, .int .u8 1, .int .i64 (-2), .slice none 0 0] 24)).alloc (by simp) (.cells #[.int .u8 1, .int .i64 1, .slice none 0 0, .int .u8 4, .int .i64 0, .slice (some ⟨w2.heap.size, 0, none⟩) 2 2] 24))
  obtain ⟨⟨z0, z1, z2⟩, f0, f1, f2⟩ := r3.1.three
  have hlt := r2.1.lt
  have e0 : ∀ i, w2.heap.size ≠ (⟨w.heap.size, i, none⟩ : Addr).block := fun i => by show w2.heap.size ≠ w.heap.size; omega
  have e1 : ∀ i, w2.heap.size + 1 ≠ (⟨w.heap.size, i, none⟩ : Addr).block := fun i => by show w2.heap.size + 1 ≠ w.heap.size; omega
  have r4 := res_set r3 (.int .u8 3) (.int .i64 0) (.slice (some ⟨w2.heap.size + 1, 0, none⟩) 2 2)
  have hv := ex_vsl (((k1'.far (e0 0) (.int .u8 3)).far (e0 1) (.int .i64 0)).far (e0 2) (.slice (some ⟨w2.heap.size + 1, 0, none⟩) 2 2)) (((k2.far (e1 0) (.int .u8 3)).far (e1 1) (.int .i64 0)).far (e1 2) (.slice (some ⟨w2.heap.size + 1, 0, none⟩) 2 2))
  have HX := Lib.hid (And.intro r4.2 hv)
  clear r1 r2 r3 r4 k1 k1' k2 hlt e0 e1 hv hb1 hb2 HN
  go_wp2_with fail
  refine bodyPost_ret (v := .agg #[.int .u8 3, .int .i64 0, .slice (some ⟨w2.heap.size + 1, 0, none⟩) 2 2]) (by simp [results, Tryz.results28, go_sem, z0, z1, z2]) rfl ⟨⟨_, _, rfl, ?_⟩, ?_⟩
  · exact HX.out.2
  · exact HX.out.1

theorem same_lit (v : V) (A B : Option Addr) (c d : Nat) (W : World) (hv : v.size ≤ 1000000) (hA : Vsl W W.heap.size A v.l) (hB : Vsl W W.heap.size B v.l) :
    Calls Tryz.prog 19 #[.agg #[.int .u8 v.k, .int .i64 v.n, .slice A v.l.length c], .agg #[.int .u8 v.k, .int .i64 v.n, .slice B v.l.length d]] W fun e w' => e = .returned (.bool true) ∧ Below W.heap.size W w' := vsame_eq v A B c d W hv hA hB
theorem same_zero (W : World) : Calls Tryz.prog 19 #[.agg #[.int .u8 0, .int .i64 0, .slice none 0 0], .agg #[.int .u8 0, .int .i64 0, .slice none 0 0]] W fun e w' => e = .returned (.bool true) ∧ Below W.heap.size W w' := vsame_eq (.mk 0 0 []) none none 0 0 W (by rw [V.size, V.sizes]; decide) (.emp _) (.emp _)

set_option maxRecDepth 100000 in
set_option maxHeartbeats 2000000 in
theorem refused_any (l : List UInt8) (p e : Nat) (hl : l.length ≤ 65536) (hr : readV l = .bad p e) (w : World) (hv : Env w) : Calls Tryz.prog 29 #[.string (bs l), .int .i64 p, .int .i64 e] w fun en w' => en = .returned (.bool true) ∧ Below w.heap.size w w' := by
  have hR := read_any (bs l) w (by rw [bs_size]; omega) hv
  rw [bs_list, hr] at hR
  have HR := Lib.hid hR
  have HS := Lib.hid same_zero
  clear hR hr hl
  go_enter Tryz.func29, Tryz.ntmps29
  go_wp2_with fail
  refine HR.out.mono ?_
  rintro e' w1 ⟨rfl, hb1⟩
  have HB := Lib.hid hb1
  clear hb1
  go_wp2_with fail
  refine (HS.out _).mono ?_
  rintro e' w2 ⟨rfl, hb2⟩
  have HX := Lib.hid ((HB.out.alloc HB.out.size _).trans (hb2.mono (by have := HB.out.size; simp; omega)))
  clear hb2
  go_wp2_with fail
  go_ret
  exact ⟨rfl, HX.out⟩
end
end Go.Proofs.YtbhekkkijomglaaGreatDoor
