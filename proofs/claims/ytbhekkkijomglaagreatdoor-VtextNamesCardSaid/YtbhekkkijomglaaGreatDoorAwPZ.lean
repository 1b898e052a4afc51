/- Put together: AwP, ValM. -/
import Derived.Test.YtbhekkkijomglaaGreatDoorVtU
import Derived.Test.YtbhekkkijomglaaGreatDoorBldZ
import Derived.Test.YtbhekkkijomglaaGreatDoorBaseZ
namespace Go.Proofs.YtbhekkkijomglaaGreatDoor
/-! The examples of the statements, in plain Lean. -/
section
open Go.RowKit

def exV : V := .mk 3 0 [.mk 1 1 [], .mk 4 0 [.mk 2 1 [], .mk 1 (-2) []]]
theorem ex_show : showV exV = ([60, 49, 32, 91, 116, 114, 117, 101, 32, 45, 50, 93, 62], 0) := by kernel_rfl
theorem ex_read : ∃ m, readV [60, 49, 32, 91, 116, 114, 117, 101, 32, 45, 50, 93, 32, 62] = .ok exV 0 m := ⟨5, by kernel_rfl⟩
theorem ex_part : ∃ m, partV [40, 101, 113, 32, 53, 41] 3 = .ok (.mk 1 5 []) 5 m := ⟨1, by kernel_rfl⟩
theorem ex_r1 : readV [60, 49] = .bad 2 4 := by kernel_rfl
theorem ex_r2 : readV [60, 49, 93] = .bad 2 3 := by kernel_rfl
theorem ex_r3 : readV [116, 114, 117, 116, 104] = .bad 0 3 := by kernel_rfl
theorem ex_r4 : readV [49, 32, 50] = .bad 2 6 := by kernel_rfl
end

/-! Values in memory. -/
section
open Go.RowKit

/-- A slice's value (its address) holds values, in blocks below B. -/
inductive Vsl (w : World) (B : Nat) : Option Addr → List V → Prop
  | emp (A : Option Addr) : Vsl w B A []
  | row (g o : Nat) (l : List V) (A : Nat → Option Addr) (c : Nat → Nat) (hg : g < B)
      (hc : ∀ (i : Nat) (x : V), l[i]? = some x → w.cell? ⟨g, o + i * 3, none⟩ = some (.int .u8 x.k) ∧ w.cell? ⟨g, o + i * 3 + 1, none⟩ = some (.int .i64 x.n) ∧ w.cell? ⟨g, o + i * 3 + 2, none⟩ = some (.slice (A i) x.l.length (c i)))
      (hs : ∀ (i : Nat) (x : V), l[i]? = some x → Vsl w B (A i) x.l) : Vsl w B (some ⟨g, o, none⟩) l
theorem Vsl.carry {w w' : World} {B B' : Nat} (hB : B ≤ B') (hk : ∀ (p : Addr) (u : Value), p.block < B → w.cell? p = some u → w'.cell? p = some u) {A : Option Addr} {l : List V} (h : Vsl w B A l) : Vsl w' B' A l := by
  induction h with
  | emp A => exact .emp A
  | row g o l A c hg hc hs ih =>
    refine .row g o l A c (Nat.lt_of_lt_of_le hg hB) (fun i x hx => ?_) ih
    obtain ⟨h1, h2, h3⟩ := hc i x hx
    exact ⟨hk ⟨g, o + i * 3, none⟩ _ hg h1, hk ⟨g, o + i * 3 + 1, none⟩ _ hg h2, hk ⟨g, o + i * 3 + 2, none⟩ _ hg h3⟩
theorem Vsl.keep {w w' : World} {B B' : Nat} (hB : B ≤ B') (hk : ∀ p : Addr, p.block < B → w'.cell? p = w.cell? p) {A : Option Addr} {l : List V} (h : Vsl w B A l) : Vsl w' B' A l :=
  h.carry hB fun p _ hp hu => (hk p hp).trans hu
theorem Vsl.more {w : World} {B B' : Nat} (hB : B ≤ B') {A : Option Addr} {l : List V} (h : Vsl w B A l) : Vsl w B' A l := h.keep hB fun _ _ => rfl
theorem Vsl.held {w w' : World} {B : Nat} {A : Option Addr} {l : List V} (h : Vsl w B A l) (hb : Below B w w') : Vsl w' B A l := h.keep (Nat.le_refl _) fun _ hp => hb.cell hp
theorem Vsl.alloc {w : World} {B : Nat} {A : Option Addr} {l : List V} (h : Vsl w B A l) (hB : B ≤ w.heap.size) (o : Obj) : Vsl (w.alloc o) B A l :=
  h.held ((Below.refl _ _).alloc hB o)
theorem Vsl.drewN {w : World} {B : Nat} {A : Option Addr} {l : List V} (h : Vsl w B A l) (n : Nat) : Vsl (w.drewN n) B A l := h.held (below_drewN (Below.refl _ _) n)
theorem Vsl.grown {w w' : World} {B : Nat} {A : Option Addr} {l : List V} {row : Option Nat} (h : Vsl w B A l) (hg : w.grownBy w' row) (hB : B ≤ w.heap.size) (hr : ∀ g, row = some g → B ≤ g) : Vsl w' B A l :=
  h.keep (Nat.le_refl _) fun p hp => World.cell?_of_block (hg.block p.block (by omega) (fun e => by have := hr _ e.symm; omega))
/-- Where items stand. -/
theorem Vsl.at_ {w : World} {B : Nat} {A : Option Addr} {l : List V} (h : Vsl w B A l) {i : Nat} {x : V} (hx : l[i]? = some x) :
    ∃ g o A' c', A = some ⟨g, o, none⟩ ∧ g < B ∧ w.cell? ⟨g, o + i * 3, none⟩ = some (.int .u8 x.k) ∧ w.cell? ⟨g, o + i * 3 + 1, none⟩ = some (.int .i64 x.n) ∧ w.cell? ⟨g, o + i * 3 + 2, none⟩ = some (.slice A' x.l.length c') ∧ Vsl w B A' x.l := by
  cases h with
  | emp A => simp at hx
  | row g o l A c hg hc hs =>
    obtain ⟨h1, h2, h3⟩ := hc i x hx
    exact ⟨g, o, A i, c i, rfl, hg, h1, h2, h3, hs i x hx⟩
/-- A value as it is handed on. -/
def vAgg (v : V) (A : Option Addr) (c : Nat) : Value := .agg #[.int .u8 v.k, .int .i64 v.n, .slice A v.l.length c]
theorem Blk.three {w : World} {g : Nat} {t : TypeId} {a b c : Value} (h : Blk w g t #[a, b, c]) :
    (w.cell? ⟨g, 0, none⟩ = some a ∧ w.cell? ⟨g, 1, none⟩ = some b ∧ w.cell? ⟨g, 2, none⟩ = some c) ∧ (w.frozen? ⟨g, 0, none⟩ = false ∧ w.frozen? ⟨g, 1, none⟩ = false ∧ w.frozen? ⟨g, 2, none⟩ = false) :=
  ⟨⟨h.cell 0, h.cell 1, h.cell 2⟩, ⟨h.frozen 0, h.frozen 1, h.frozen 2⟩⟩
end
end Go.Proofs.YtbhekkkijomglaaGreatDoor
