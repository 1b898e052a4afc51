/- The walks of the statements' helpers: like, takes, awake. -/
import Derived.Test.YtimclggnpllfhaaWalkB
namespace Go.Proofs.Ytimclggnpllfhaa
open Go.RowKit

theorem like_any {w : World} {p q : Nat} {s : ByteArray} {a : Nat} {ov : Bool} (h : Cur 42 w p s a ov) (k : Cur 48 w q s a ov) :
    Calls Try.prog 14 #[.pointer (some ⟨p, 0, none⟩), .pointer (some ⟨q, 0, none⟩)] w fun e w' => e = .returned (.bool true) ∧ ∃ n, w' = w.drewN n := by
  have c1 : w.cell? ⟨q, 1, none⟩ = some (.int .i64 a) := k.blk.cell 1
  have c2 : w.cell? ⟨q, 2, none⟩ = some (.bool ov) := k.blk.cell 2
  go_enter Try.func14, Try.ntmps14
  go_wp2
  go_quiet ((first | (go_at_call 16; exact Calls.quiet_of_same (at_any (h.drewN _))) | (go_at_call 18; exact Calls.quiet_of (left_any (h.drewN _))) | (go_at_call 17; exact Calls.quiet_of (rest_any (h.drewN _))) | (go_at_call 15; exact Calls.quiet_of_same (over_any (h.drewN _))) | (go_at_call 24; exact Calls.quiet_of (rleft_any (k.drewN _))) | (go_at_call 25; exact Calls.quiet_of (rrest_any (k.drewN _)))))
  go_wp2
  go_ret
  exact ⟨rfl, _, rfl⟩

theorem takes_any {w : World} {p : Nat} {s : ByteArray} {a : Nat} {ov : Bool} (h : Cur 42 w p s a ov) (n : Int) (x : Nat) (is : Bool) :
    Calls Try.prog 20 #[.pointer (some ⟨p, 0, none⟩), .int .i64 n, .int .u64 x, .bool is] w fun e w' => e = .returned (.bool ((tk s a ov n).1 == x && (tk s a ov n).2.1 == is)) ∧ Cur 42 w' p s (tk s a ov n).2.2.1 (tk s a ov n).2.2.2 ∧ w.grownBy w' (some p) := by
  have ht := take_any h n
  generalize tk s a ov n = r at ht
  obtain ⟨r1, r2, r3, r4⟩ := r
  have HT := Lib.hid ht; clear ht
  go_enter Try.func20, Try.ntmps20
  go_wp2_with (go_at_call 12; refine HT.out.mono ?_; rintro e w' ⟨rfl, hc, hg⟩)
  · have hx : (r1 : Int) = x := by assumption
    go_ret
    refine ⟨ret_bool ?_, by assumption, by assumption⟩
    obtain rfl : r1 = x := by omega
    simp
  · have hx : ¬ (r1 : Int) = x := by assumption
    go_ret
    refine ⟨ret_bool ?_, by assumption, by assumption⟩
    have hne : ¬ r1 = x := by omega
    simp [hne]

theorem takes_yes {w : World} {p : Nat} {s : ByteArray} {a : Nat} {ov : Bool} (h : Cur 42 w p s a ov) (n x : Int) (r : Nat) (is : Bool) (a' : Nat) (ov' : Bool) (hx : x = r) (ht : tk s a ov n = (r, is, a', ov')) :
    Calls Try.prog 20 #[.pointer (some ⟨p, 0, none⟩), .int .i64 n, .int .u64 x, .bool is] w fun e w' => e = .returned (.bool true) ∧ Cur 42 w' p s a' ov' ∧ w.grownBy w' (some p) := by
  subst hx
  refine (takes_any h n r is).mono fun e w' ⟨he, hc, hg⟩ => ?_
  rw [ht] at he hc
  exact ⟨by rw [he]; simp, hc, hg⟩
theorem left_eq {w : World} {p : Nat} {s : ByteArray} {a : Nat} {ov : Bool} (h : Cur 42 w p s a ov) (v : Int) (hv : (s.size : Int) - a = v) :
    Calls Try.prog 18 #[.pointer (some ⟨p, 0, none⟩)] w fun e w' => e = .returned (.int .i64 v) ∧ ∃ n, w' = w.drewN n := by
  subst hv; exact left_any h
theorem rest_eq {w : World} {p : Nat} {s : ByteArray} {a : Nat} {ov : Bool} (h : Cur 42 w p s a ov) (v : ByteArray) (hv : s.extract a s.size = v) :
    Calls Try.prog 17 #[.pointer (some ⟨p, 0, none⟩)] w fun e w' => e = .returned (.string v) ∧ ∃ n, w' = w.drewN n := by
  subst hv; exact rest_any h

theorem awake_any (w : World) : Calls Try.prog 9 #[] w fun e w' => e = .returned (.bool true) ∧ Below w.heap.size w w' := by
  have b0 := Below.refl w.heap.size w
  go_enter Try.func9, Try.ntmps9
  go_wp2_with fail
  refine (new_yes _ _ (by decide)).mono ?_
  rintro e w' ⟨rfl, hw⟩
  have hc := Cur.new (t := 42) w ⟨#[49, 48, 49, 49, 48]⟩ (by decide)
  have b1 := b0.alloc (Nat.le_refl _) (.cells #[.string ⟨#[49, 48, 49, 49, 48]⟩, .int .i64 0, .bool false] 42)
  rw [← hw] at hc b1
  clear hw
  generalize hp : w.heap.size = p at *
  have HP := Lib.hid hp
  clear hp
  go_wp2_with fail
  refine (new_no _ _ (by decide) (by decide)).mono ?_
  rintro e w1 ⟨rfl, rfl⟩
  go_wp2_with fail
  refine (takes_yes hc 3 5 5 true 3 false rfl (by decide)).mono ?_
  rintro e w2 ⟨rfl, hc2, hg2⟩
  have b2 := below_of_only b1 hg2 (Nat.le_of_lt hc.lt) (Nat.le_refl _)
  clear hg2
  go_wp2_with fail
  refine (at_any hc2).mono ?_
  rintro e w' ⟨rfl, rfl⟩
  go_wp2_with fail
  refine (left_eq hc2 2 (by decide)).mono ?_
  rintro e w3 ⟨rfl, n3, hw3⟩
  have hc3 := hc2.drewN n3
  have b3 := below_drewN b2 n3
  rw [← hw3] at hc3 b3
  clear hw3
  go_wp2_with fail
  refine (rest_eq hc3 ⟨#[49, 48]⟩ (by decide)).mono ?_
  rintro e w4 ⟨rfl, n4, hw4⟩
  have hc4 := hc3.drewN n4
  have b4 := below_drewN b3 n4
  rw [← hw4] at hc4 b4
  clear hw4
  go_wp2_with fail
  refine (takes_yes hc4 0 0 0 true 3 false rfl (by decide)).mono ?_
  rintro e w5 ⟨rfl, hc5, hg5⟩
  have b5 := below_of_only b4 hg5 (Nat.le_of_lt hc4.lt) (Nat.le_refl _)
  clear hg5
  go_wp2_with fail
  refine (over_any hc5).mono ?_
  rintro e w' ⟨rfl, rfl⟩
  go_wp2_with fail
  refine (takes_yes hc5 3 0 0 false 3 true rfl (by decide)).mono ?_
  rintro e w6 ⟨rfl, hc6, hg6⟩
  have b6 := below_of_only b5 hg6 (Nat.le_of_lt hc5.lt) (Nat.le_refl _)
  clear hg6
  go_wp2_with fail
  refine (over_any hc6).mono ?_
  rintro e w' ⟨rfl, rfl⟩
  go_wp2_with fail
  refine (takes_yes hc6 1 0 0 false 3 true rfl (by decide)).mono ?_
  rintro e w7 ⟨rfl, hc7, hg7⟩
  have b7 := below_of_only b6 hg7 (Nat.le_of_lt hc6.lt) (Nat.le_refl _)
  clear hg7
  go_wp2_with fail
  refine (at_any hc7).mono ?_
  rintro e w' ⟨rfl, rfl⟩
  go_wp2
  go_ret
  exact ⟨rfl, by rw [HP.out]; exact b7⟩

/-- A slice of ints that came in: its cells, below block B. -/
def Ints (w : World) (B : Nat) (A : Option Addr) (n : Nat) (zs : List Int) : Prop :=
  0 < n → ∃ b off, A = some ⟨b, off, none⟩ ∧ b < B ∧ ∀ i, i < n → w.cell? ⟨b, off + i, none⟩ = some (.int .i64 (zs.getD i 0))
theorem ints_of_cells {w : World} {x : Addr} {n : Nat} {zs : List Int} (h : ∀ i, i < n → w.cell? (x.add i) = some (.int .i64 (zs.getD i 0))) : Ints w w.heap.size (some x) n zs := fun hn => by
  obtain ⟨b, off, spot⟩ := x
  have hc := h 0 hn
  have hspot : spot = none := by simpa [Addr.add] using World.cell?_spot hc
  subst hspot
  have hb : b < w.heap.size := by simpa [Addr.add] using World.block_lt_of_cell? w _ hc
  refine ⟨b, off, rfl, hb, fun i hi => ?_⟩
  rw [← h i hi]
  unfold Addr.add
  split <;> simp_all
theorem Ints.below {w w' : World} {B : Nat} {A : Option Addr} {n : Nat} {zs : List Int} (h : Ints w B A n zs) (hb : Below B w w') : Ints w' B A n zs := fun hn => by
  obtain ⟨b, off, hA, hlt, hc⟩ := h hn
  exact ⟨b, off, hA, hlt, fun i hi => (hb.cell (p := ⟨b, off + i, none⟩) hlt).trans (hc i hi)⟩

/-- Below B the world w' is as w was; B was there. -/
structure Old (B : Nat) (w w' : World) : Prop where
  b : Below B w w'
  le : B ≤ w.heap.size
theorem Old.start (w : World) : Old w.heap.size w w := ⟨Below.refl _ _, Nat.le_refl _⟩
theorem Old.size {B : Nat} {w w' : World} (h : Old B w w') : B ≤ w'.heap.size := Nat.le_trans h.le h.b.size
theorem Old.step {B : Nat} {w a c : World} (h : Old B w a) (k : Below a.heap.size a c) : Old B w c := ⟨h.b.trans (k.mono h.size), h.le⟩
theorem Old.only {B g : Nat} {w a c : World} (h : Old B w a) (k : a.grownBy c (some g)) (hg : B ≤ g) : Old B w c := ⟨below_of_only h.b k h.size hg, h.le⟩
/-- Nothing but a count of draws has turned. -/
def Q (w w' : World) : Prop := ∃ n, w' = w.drewN n
theorem Q.cell {a c : World} {p : Addr} {v : Value} (k : Q a c) (h : a.cell? p = some v) : c.cell? p = some v := by
  obtain ⟨n, rfl⟩ := k; exact h
theorem Old.q {B : Nat} {w a c : World} (h : Old B w a) (k : Q a c) : Old B w c := by
  obtain ⟨n, rfl⟩ := k; exact ⟨below_drewN h.b n, h.le⟩
theorem Cur.q {t : TypeId} {w w' : World} {p : Nat} {s : ByteArray} {a : Nat} {ov : Bool} (h : Cur t w p s a ov) (k : Q w w') : Cur t w' p s a ov := by
  obtain ⟨n, rfl⟩ := k; exact h.drewN n
theorem Cur.step {t : TypeId} {w w' : World} {p : Nat} {s : ByteArray} {a : Nat} {ov : Bool} (h : Cur t w p s a ov) (k : Below w.heap.size w w') : Cur t w' p s a ov := h.below k h.lt
theorem Ints.old {w w' : World} {B : Nat} {A : Option Addr} {n : Nat} {zs : List Int} (h : Ints w B A n zs) (hb : Old B w w') : Ints w' B A n zs := h.below hb.b

theorem new_c (s : ByteArray) (w : World) (h : isB s.data.toList = true) :
    Calls Try.prog 10 #[.string s] w fun e w' => ∃ p, e = .returned (.tuple #[.pointer (some ⟨p, 0, none⟩), .int .i64 0]) ∧ w.heap.size ≤ p ∧ Cur 42 w' p s 0 false ∧ Below w.heap.size w w' :=
  (new_yes s w h).mono fun e w' ⟨he, hw⟩ => ⟨_, he, Nat.le_refl _, by rw [hw]; exact Cur.new _ _ h, by rw [hw]; exact (Below.refl _ _).alloc (Nat.le_refl _) _⟩
section
variable {w : World} {p : Nat} {s : ByteArray} {a : Nat} {ov : Bool}
theorem left_q (h : Cur 42 w p s a ov) (v : Int) (hv : (s.size : Int) - a = v) :
    Calls Try.prog 18 #[.pointer (some ⟨p, 0, none⟩)] w fun e w' => e = .returned (.int .i64 v) ∧ Q w w' := left_eq h v hv
theorem rest_q (h : Cur 42 w p s a ov) (v : ByteArray) (hv : s.extract a s.size = v) :
    Calls Try.prog 17 #[.pointer (some ⟨p, 0, none⟩)] w fun e w' => e = .returned (.string v) ∧ Q w w' := rest_eq h v hv
end

theorem copy_c {w : World} {p : Nat} {s : ByteArray} {a : Nat} {ov : Bool} (h : Cur 42 w p s a ov) :
    Calls Try.prog 21 #[.pointer (some ⟨p, 0, none⟩)] w fun e w' => ∃ q, e = .returned (.pointer (some ⟨q, 0, none⟩)) ∧ w.heap.size ≤ q ∧ Cur 42 w' q s a ov ∧ Below w.heap.size w w' :=
  (copy_any h).mono fun e w' ⟨he, hw⟩ => ⟨_, he, Nat.le_refl _, by rw [hw]; exact ⟨Blk.new _ _ _, h.is, h.le⟩, by rw [hw]; exact (Below.refl _ _).alloc (Nat.le_refl _) _⟩
/-- Where a cursor stands after k Takes of the numbers z. -/
def tks (s : ByteArray) (z : Nat → Int) : Nat → Nat × Bool → Nat × Bool
  | 0, x => x
  | k + 1, x => (tk s (tks s z k x).1 (tks s z k x).2 (z k)).2.2
end Go.Proofs.Ytimclggnpllfhaa
