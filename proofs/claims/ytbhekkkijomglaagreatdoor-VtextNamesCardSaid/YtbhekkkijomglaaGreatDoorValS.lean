/- The walks of Same (values), weigh, Long. -/
import Derived.Test.YtbhekkkijomglaaGreatDoorAwPZ
import Derived.Test.YtbhekkkijomglaaGreatDoorShelf
import Derived.StillTailTactics
import Derived.OwnWalk
import Derived.WalkSpells
import Derived.Handy
namespace Go.Proofs.YtbhekkkijomglaaGreatDoor
open Go.RowKit

theorem len_sizes (l : List V) : l.length ≤ V.sizes l := by
  induction l with
  | nil => exact Nat.zero_le _
  | cons x r ih => rw [V.sizes, List.length_cons]; have := sizes_pos x; omega
theorem vsl_to {w w' : World} {B B' : Nat} {A : Option Addr} {l : List V} (h : Vsl w B A l) (hb : Below B w w') (hB : B ≤ B') : Vsl w' B' A l := (h.held hb).more hB

set_option maxRecDepth 100000 in
set_option maxHeartbeats 1000000 in
/-- Same of a value twice. -/
theorem vsame_eq : ∀ (x : V) (A B : Option Addr) (c d : Nat) (w : World), x.size ≤ 1000000 → Vsl w w.heap.size A x.l → Vsl w w.heap.size B x.l →
    Calls Tryz.prog 19 #[vAgg x A c, vAgg x B d] w fun e w' => e = .returned (.bool true) ∧ Below w.heap.size w w' := by
  intro x
  induction x using V.ind with
  | h k n l ih =>
    intro A B c d w hsz hA hB
    change Vsl w w.heap.size A l at hA
    change Vsl w w.heap.size B l at hB
    have hll : l.length ≤ 1000000 := by rw [V.size] at hsz; have := len_sizes l; omega
    have hsub : ∀ y ∈ l, y.size ≤ 1000000 := fun y hy => by rw [V.size] at hsz; have := size_mem hy; omega
    have IH := Lib.hid ih; have HS := Lib.hid hsub
    clear ih hsub hsz
    show Calls Tryz.prog 19 #[.agg #[.int .u8 k, .int .i64 n, .slice A l.length c], .agg #[.int .u8 k, .int .i64 n, .slice B l.length d]] w fun e w' => e = .returned (.bool true) ∧ Below w.heap.size w w'
    have hk1 := (Blk.new w 24 #[.int .u8 k, .int .i64 n, .slice A l.length c]).alloc (.cells #[.int .u8 k, .int .i64 n, .slice B l.length d] 24)
    have hk2 := Blk.new (w.alloc (.cells #[.int .u8 k, .int .i64 n, .slice A l.length c] 24)) 24 #[.int .u8 k, .int .i64 n, .slice B l.length d]
    have hb2 := ((Below.refl w.heap.size w).alloc (Nat.le_refl _) (.cells #[.int .u8 k, .int .i64 n, .slice A l.length c] 24)).alloc (by simp) (.cells #[.int .u8 k, .int .i64 n, .slice B l.length d] 24)
    simp only [World.size_alloc] at hk2
    have HK := Lib.hid (And.intro hk1 (And.intro hk2 hb2))
    clear hk1 hk2 hb2
    go_enter Tryz.func19, Tryz.ntmps19
    go_wp2_with fail
    go_loopw [5] (fun i wr => ∃ j : Nat, j ≤ l.length ∧ i = .int .i64 j ∧ Blk wr w.heap.size 24 #[.int .u8 k, .int .i64 n, .slice A l.length c] ∧ Blk wr (w.heap.size + 1) 24 #[.int .u8 k, .int .i64 n, .slice B l.length d] ∧ Below w.heap.size w wr) (fun i _ => l.length - (intOf i).toNat)
    case atStart => exact ⟨0, Nat.zero_le _, rfl, HK.out.1, HK.out.2.1, HK.out.2.2⟩
    case round =>
      obtain ⟨j, hj, rfl, hk1, hk2, hbw⟩ := hrel
      obtain ⟨⟨a0, a1, a2⟩, _⟩ := hk1.three
      obtain ⟨⟨b0, b1, b2⟩, _⟩ := hk2.three
      by_cases hlt : j < l.length
      · obtain ⟨y, hy⟩ : ∃ y, l[j]? = some y := ⟨l[j], List.getElem?_eq_getElem hlt⟩
        obtain ⟨g1, o1, A1, d1, rfl, hg1, p0, p1, p2, hA1⟩ := (hA.held hbw).at_ hy
        obtain ⟨g2, o2, B1, e1, rfl, hg2, q0, q1, q2, hB1⟩ := (hB.held hbw).at_ hy
        have hmem : y ∈ l := List.mem_of_getElem? hy
        have hcall := IH.out y hmem A1 B1 d1 e1 wr.drew (HS.out y hmem) (vsl_to hA1 ((Below.refl _ _).drew) hbw.size) (vsl_to hB1 ((Below.refl _ _).drew) hbw.size)
        have HC : Hid (Calls Tryz.prog 19 #[.agg #[.int .u8 y.k, .int .i64 y.n, .slice A1 y.l.length d1], .agg #[.int .u8 y.k, .int .i64 y.n, .slice B1 y.l.length e1]] wr.drew fun e w' => e = .returned (.bool true) ∧ Below wr.drew.heap.size wr.drew w') := hcall
        have HB := Lib.hid hbw; have HK1 := Lib.hid (And.intro hk1 hk2)
        have j0 : (0 : Int) ≤ (j : Int) := by omega
        have j1 : (j : Int) < (l.length : Int) := by omega
        clear hcall hA1 hB1 hy hmem hbw hk1 hk2 HK hA hB
        go_wp2_with fail
        go_still_tail 10, (by kernel_rfl)
        go_wp2_with fail
        refine HC.out.mono ?_
        rintro e w3 ⟨rfl, hb3⟩
        have hz : wr.drew.heap.size = wr.heap.size := rfl
        have hk1 := HK1.out.1.drew.below hb3 HK1.out.1.lt
        have hk2 := HK1.out.2.drew.below hb3 HK1.out.2.lt
        have HX := Lib.hid (And.intro hk1 (And.intro hk2 (HB.out.drew.trans (hb3.mono HB.out.size))))
        clear hk1 hk2 hz hb3
        go_wp2_with fail
        go_roundw
        case rel => exact ⟨j + 1, by omega, by go_num, HX.out.1, HX.out.2.1, HX.out.2.2⟩
        case measure => simp [intOf]; omega
      · obtain rfl : j = l.length := by omega
        have HB := Lib.hid hbw
        clear hbw hk1 hk2 HK hA hB
        go_wp2_with fail
        go_ret
        exact ⟨rfl, HB.out⟩

/-! ### How many values there are, up to so many -/
mutual
def V.weigh : V → Nat → Nat
  | .mk _ _ l, most => V.weighs l 1 most
def V.weighs : List V → Nat → Nat → Nat
  | [], n, _ => n
  | x :: r, n, most => if n < most then V.weighs r (n + x.weigh (most - n)) most else n
end
theorem weighs_full (l : List V) (n most : Nat) (h : most ≤ n) : V.weighs l n most = n := by
  cases l with
  | nil => rfl
  | cons x r => rw [V.weighs, if_neg (by omega)]
theorem weigh_le : ∀ (x : V) (most : Nat), 1 ≤ most → 1 ≤ x.weigh most ∧ x.weigh most ≤ most := by
  intro x
  induction x using V.ind with
  | h k n l ih =>
    intro most hm
    rw [V.weigh]
    have key : ∀ (l : List V), (∀ x ∈ l, ∀ most, 1 ≤ most → 1 ≤ x.weigh most ∧ x.weigh most ≤ most) → ∀ n, 1 ≤ n → n ≤ most → 1 ≤ V.weighs l n most ∧ V.weighs l n most ≤ most := by
      intro l
      induction l with
      | nil => intro _ n h1 h2; rw [V.weighs]; exact ⟨h1, h2⟩
      | cons x r ihr =>
        intro hx n h1 h2
        rw [V.weighs]
        by_cases h : n < most
        · rw [if_pos h]
          have := hx x List.mem_cons_self (most - n) (by omega)
          exact ihr (fun y hy => hx y (List.mem_cons_of_mem _ hy)) _ (by omega) (by omega)
        · rw [if_neg h]; exact ⟨h1, h2⟩
    exact key l (fun x hx => ih x hx) 1 (Nat.le_refl _) hm
theorem weighs_le (l : List V) : ∀ n most, n ≤ most → n ≤ V.weighs l n most ∧ V.weighs l n most ≤ most := by
  induction l with
  | nil => intro n most h; rw [V.weighs]; exact ⟨Nat.le_refl _, h⟩
  | cons x r ihr =>
    intro n most h
    rw [V.weighs]
    by_cases h1 : n < most
    · rw [if_pos h1]
      have := weigh_le x (most - n) (by omega)
      have := ihr (n + x.weigh (most - n)) most (by omega)
      omega
    · rw [if_neg h1]; exact ⟨Nat.le_refl _, h⟩
/-- Where it stays below, it is the size. -/
theorem weigh_size : ∀ (x : V) (most : Nat), x.weigh most < most → x.weigh most = x.size := by
  intro x
  induction x using V.ind with
  | h k n l ih =>
    intro most hm
    rw [V.weigh] at hm ⊢
    have key : ∀ (l : List V), (∀ x ∈ l, ∀ most, x.weigh most < most → x.weigh most = x.size) → ∀ n, V.weighs l n most < most → V.weighs l n most = n + V.sizes l := by
      intro l
      induction l with
      | nil => intro _ n _; rw [V.weighs, V.sizes]; rfl
      | cons x r ihr =>
        intro hx n h
        rw [V.weighs] at h ⊢
        by_cases h1 : n < most
        · rw [if_pos h1] at h ⊢
          have hw := weigh_le x (most - n) (by omega)
          have hlt : x.weigh (most - n) < most - n := by
            rcases Nat.lt_or_ge (x.weigh (most - n)) (most - n) with q | q
            · exact q
            · rw [weighs_full _ _ _ (by omega)] at h; omega
          rw [ihr (fun y hy => hx y (List.mem_cons_of_mem _ hy)) _ h, hx x List.mem_cons_self _ hlt, V.sizes]
          omega
        · rw [if_neg h1] at h; omega
    rw [key l (fun x hx => ih x hx) 1 hm, V.size]
theorem weighs_size (l : List V) : ∀ n most, V.weighs l n most < most → V.weighs l n most = n + V.sizes l := by
  induction l with
  | nil => intro n most _; rw [V.weighs, V.sizes]; rfl
  | cons x r ihr =>
    intro n most h
    rw [V.weighs] at h ⊢
    by_cases h1 : n < most
    · rw [if_pos h1] at h ⊢
      have hw := weigh_le x (most - n) (by omega)
      have hlt : x.weigh (most - n) < most - n := by
        rcases Nat.lt_or_ge (x.weigh (most - n)) (most - n) with q | q
        · exact q
        · rw [weighs_full _ _ _ (by omega)] at h; omega
      rw [ihr _ _ h, weigh_size x _ hlt, V.sizes]
      omega
    · rw [if_neg h1] at h; omega

theorem drop_cons {l : List V} {j : Nat} {y : V} (h : l[j]? = some y) : l.drop j = y :: l.drop (j + 1) := by
  obtain ⟨h1, h2⟩ := List.getElem?_eq_some_iff.1 h
  rw [List.drop_eq_getElem_cons h1, h2]

/-- No list is longer than a machine can count. -/
inductive V.Fits : V → Prop
  | mk (k : Nat) (n : Int) (l : List V) (h : l.length ≤ 140737488351232) (hs : ∀ x ∈ l, V.Fits x) : V.Fits (.mk k n l)
theorem V.Fits.len {v : V} (h : v.Fits) : v.l.length ≤ 140737488351232 := by cases h; assumption
theorem V.Fits.mem {v x : V} (h : v.Fits) (hx : x ∈ v.l) : x.Fits := by cases h with | mk k n l h hs => exact hs x hx

set_option maxRecDepth 100000 in
set_option maxHeartbeats 1000000 in
theorem weigh_any : ∀ (x : V) (most : Nat) (A : Option Addr) (c : Nat) (w : World), x.Fits → 1 ≤ most → most ≤ 1000000 → Vsl w w.heap.size A x.l →
    Calls Tryz.prog 27 #[vAgg x A c, .int .i64 most] w fun e w' => e = .returned (.int .i64 (x.weigh most : Nat)) ∧ Below w.heap.size w w' := by
  intro x
  induction x using V.ind with
  | h k n l ih =>
    intro most A c w hfit hm1 hm2 hA
    change Vsl w w.heap.size A l at hA
    have hll : l.length ≤ 140737488351232 := hfit.len
    have IH := Lib.hid ih; have HF := Lib.hid hfit
    clear ih hfit
    show Calls Tryz.prog 27 #[.agg #[.int .u8 k, .int .i64 n, .slice A l.length c], .int .i64 most] w fun e w' => e = .returned (.int .i64 (V.weighs l 1 most : Nat)) ∧ Below w.heap.size w w'
    have HK := Lib.hid (And.intro (Blk.new w 24 #[.int .u8 k, .int .i64 n, .slice A l.length c]) ((Below.refl w.heap.size w).alloc (Nat.le_refl _) (.cells #[.int .u8 k, .int .i64 n, .slice A l.length c] 24)))
    have H0 : Hid (V.weighs (l.drop 0) 1 most = V.weighs l 1 most) := rfl
    generalize hR : V.weighs l 1 most = R at *
    clear hR
    go_enter Tryz.func27, Tryz.ntmps27
    go_wp2_with fail
    go_loopw [5, 6] (fun nn i wr => ∃ j q : Nat, j ≤ l.length ∧ i = .int .i64 j ∧ nn = .int .i64 q ∧ 1 ≤ q ∧ q ≤ most ∧ Hid (V.weighs (l.drop j) q most = R) ∧ Blk wr w.heap.size 24 #[.int .u8 k, .int .i64 n, .slice A l.length c] ∧ Below w.heap.size w wr) (fun _ i _ => l.length - (intOf i).toNat)
    case atStart => exact ⟨0, 1, Nat.zero_le _, rfl, rfl, Nat.le_refl _, hm1, H0.out, HK.out.1, HK.out.2⟩
    case round =>
      obtain ⟨j, q, hj, rfl, rfl, hq1, hq2, HW, hk1, hbw⟩ := hrel
      obtain ⟨⟨a0, a1, a2⟩, _⟩ := hk1.three
      by_cases hlt : j < l.length
      · obtain ⟨y, hy⟩ : ∃ y, l[j]? = some y := ⟨l[j], List.getElem?_eq_getElem hlt⟩
        have hdr := drop_cons hy
        have hw := HW.out
        rw [hdr, V.weighs] at hw
        by_cases hqm : q < most
        · rw [if_pos hqm] at hw
          obtain ⟨g1, o1, A1, d1, rfl, hg1, p0, p1, p2, hA1⟩ := (hA.held hbw).at_ hy
          have hmem : y ∈ l := List.mem_of_getElem? hy
          have hwl := weigh_le y (most - q) (by omega)
          have hcall := fun W h => IH.out y hmem (most - q) A1 d1 W (HF.out.mem (v := .mk k n l) hmem) (by omega) (by omega) h
          have hms : ((most - q : Nat) : Int) = (most : Int) - (q : Int) := by omega
          rw [hms] at hcall
          generalize y.weigh (most - q) = z at *
          have HC : Hid (∀ W, Vsl W W.heap.size A1 y.l → Calls Tryz.prog 27 #[.agg #[.int .u8 y.k, .int .i64 y.n, .slice A1 y.l.length d1], .int .i64 ((most : Int) - (q : Int))] W fun e w' => e = .returned (.int .i64 (z : Nat)) ∧ Below W.heap.size W w') := hcall
          have HB := Lib.hid hbw; have HK1 := Lib.hid hk1; have HW2 := Lib.hid hw; have HA1 := Lib.hid hA1
          have j0 : (0 : Int) ≤ (j : Int) := by omega
          have j1 : (j : Int) < (l.length : Int) := by omega
          clear hcall hA1 hy hmem hbw hk1 HK hA hdr hw hms HW
          go_wp2_with fail
          refine (HC.out _ (HA1.out.more HB.out.size)).mono ?_
          rintro e w3 ⟨rfl, hb3⟩
          have HX := Lib.hid (And.intro (HK1.out.below hb3 HK1.out.lt) (HB.out.trans (hb3.mono HB.out.size)))
          clear hb3
          go_wp2_with fail
          go_roundw
          case rel => exact ⟨j + 1, q + z, by omega, by go_num, by go_num, by omega, by omega, HW2.out, HX.out.1, HX.out.2⟩
          case measure => simp [intOf]; omega
        · rw [if_neg hqm] at hw
          have HW2 := Lib.hid hw; have HB := Lib.hid hbw
          have hqi : ¬ (q : Int) < (most : Int) := by omega
          clear hw hbw hk1 HK hA hdr HW
          go_wp2_with fail
          go_ret
          exact ⟨ret_int (by rw [← HW2.out]), HB.out⟩
      · obtain rfl : j = l.length := by omega
        have hw := HW.out
        rw [List.drop_length, V.weighs] at hw
        have HW2 := Lib.hid hw; have HB := Lib.hid hbw
        clear hw hbw hk1 HK hA HW
        go_wp2_with fail
        go_ret
        exact ⟨ret_int (by rw [← HW2.out]), HB.out⟩
end Go.Proofs.YtbhekkkijomglaaGreatDoor
