/- The reader's value: what is wrong of the value that a mark begins. -/
import Derived.Test.YtbhekkkijomglaaGreatDoorRdCZ
import Derived.Test.YtbhekkkijomglaaGreatDoorValC
namespace Go.Proofs.YtbhekkkijomglaaGreatDoor
open Go.RowKit

/-- What holds behind begin: the level's block, the result's, the mark's, the value's, the reader's. -/
structure Mid (w W : World) (rb deep M V9 : Nat) (kk b d : Nat) (n : Int) (l : List UInt8) (bk : Nat) (bn : Int) (s : ByteArray) (a m p e : Int) : Prop where
  kL : Blk W w.heap.size 83 #[.pointer (some ⟨rb, 0, none⟩), .int .i64 deep]
  kR : Blk W (w.heap.size + 1) 24 #[.int .u8 0, .int .i64 0, .slice none 0 0]
  kM : Blk W M 54 #[.int .u8 kk, .int .i64 b, .int .i64 d, .int .i64 n, .string (bs l)]
  kV : Blk W V9 24 #[.int .u8 bk, .int .i64 bn, .slice none 0 0]
  kB : RdB W rb s a m p e
  g : w.grownBy W (some rb)
  hr : rb < w.heap.size
  hM : w.heap.size + 2 ≤ M
  hV : M < V9
theorem mid_start {w w1 w2 : World} {rb deep : Nat} {kk b d : Nat} {n : Int} {l : List UInt8} {bk : Nat} {bn : Int} {s : ByteArray} {a m p e : Int}
    (hL : Blk (lvW w rb deep) w.heap.size 83 #[.pointer (some ⟨rb, 0, none⟩), .int .i64 deep] ∧ Blk (lvW w rb deep) (w.heap.size + 1) 24 #[.int .u8 0, .int .i64 0, .slice none 0 0] ∧ w.grownBy (lvW w rb deep) (some rb) ∧ rb < w.heap.size)
    (hR1 : RdB w1 rb s a m p e) (hg1 : (lvW w rb deep).grownBy w1 (some rb))
    (hb2 : Below (w1.alloc (.cells #[.int .u8 kk, .int .i64 b, .int .i64 d, .int .i64 n, .string (bs l)] 54)).heap.size (w1.alloc (.cells #[.int .u8 kk, .int .i64 b, .int .i64 d, .int .i64 n, .string (bs l)] 54)) w2) :
    Mid w (w2.alloc (.cells #[.int .u8 bk, .int .i64 bn, .slice none 0 0] 24)) rb deep w1.heap.size w2.heap.size kk b d n l bk bn s a m p e := by
  obtain ⟨kL, kR, g0, hr⟩ := hL
  have h0 : (lvW w rb deep).heap.size = w.heap.size + 2 := by simp
  have h1 := hg1.size
  have h2 := hb2.size
  rw [World.size_alloc] at h2
  have n1 : some w.heap.size ≠ some rb := fun q => by injection q with q; omega
  have n2 : some (w.heap.size + 1) ≠ some rb := fun q => by injection q with q; omega
  have L1 := kL.grown hg1 n1
  have R1 := kR.grown hg1 n2
  exact ⟨((L1.alloc _).below hb2 (by simp; omega)).alloc _, ((R1.alloc _).below hb2 (by simp; omega)).alloc _, ((Blk.new w1 _ _).below hb2 (by simp)).alloc _, Blk.new w2 _ _, ((hR1.alloc _).below hb2 (by simp; omega)).alloc _,
    only_alloc (only_trans (only_alloc (only_trans g0 hg1) _) (only_of_below hb2 _)) _, hr, by omega, by omega⟩
theorem Mid.many {w W : World} {rb deep M V9 : Nat} {kk b d : Nat} {n : Int} {l : List UInt8} {bk : Nat} {bn : Int} {s : ByteArray} {a m p e : Int} (h : Mid w W rb deep M V9 kk b d n l bk bn s a m p e) (m' : Int) :
    Mid w (W.setCell ⟨rb, 2, none⟩ (.int .i64 m')) rb deep M V9 kk b d n l bk bn s a m' p e :=
  ⟨h.kL.far (p := ⟨rb, 2, none⟩) (by have := h.hr; show w.heap.size ≠ rb; omega) _, h.kR.far (p := ⟨rb, 2, none⟩) (by have := h.hr; show w.heap.size + 1 ≠ rb; omega) _, h.kM.far (p := ⟨rb, 2, none⟩) (by have := h.hr; have := h.hM; show M ≠ rb; omega) _, h.kV.far (p := ⟨rb, 2, none⟩) (by have := h.hr; have := h.hM; have := h.hV; show V9 ≠ rb; omega) _,
    h.kB.set_ 2 _, only_setCell h.g (p := ⟨rb, 2, none⟩) (.inl rfl) _, h.hr, h.hM, h.hV⟩
theorem Mid.at_ {w W : World} {rb deep M V9 : Nat} {kk b d : Nat} {n : Int} {l : List UInt8} {bk : Nat} {bn : Int} {s : ByteArray} {a m p e : Int} (h : Mid w W rb deep M V9 kk b d n l bk bn s a m p e) (m' : Int) :
    Mid w (W.setCell ⟨rb, 1, none⟩ (.int .i64 m')) rb deep M V9 kk b d n l bk bn s m' m p e :=
  ⟨h.kL.far (p := ⟨rb, 1, none⟩) (by have := h.hr; show w.heap.size ≠ rb; omega) _, h.kR.far (p := ⟨rb, 1, none⟩) (by have := h.hr; show w.heap.size + 1 ≠ rb; omega) _, h.kM.far (p := ⟨rb, 1, none⟩) (by have := h.hr; have := h.hM; show M ≠ rb; omega) _, h.kV.far (p := ⟨rb, 1, none⟩) (by have := h.hr; have := h.hM; have := h.hV; show V9 ≠ rb; omega) _,
    h.kB.set_ 1 _, only_setCell h.g (p := ⟨rb, 1, none⟩) (.inl rfl) _, h.hr, h.hM, h.hV⟩
theorem Mid.grown {w W W' : World} {rb deep M V9 : Nat} {kk b d : Nat} {n : Int} {l : List UInt8} {bk : Nat} {bn : Int} {s s' : ByteArray} {a m p e a' m' p' e' : Int} (h : Mid w W rb deep M V9 kk b d n l bk bn s a m p e) (hg : W.grownBy W' (some rb)) (hb : RdB W' rb s' a' m' p' e') :
    Mid w W' rb deep M V9 kk b d n l bk bn s' a' m' p' e' :=
  ⟨h.kL.grown hg (fun q => by injection q with q; have := h.hr; omega), h.kR.grown hg (fun q => by injection q with q; have := h.hr; omega), h.kM.grown hg (fun q => by injection q with q; have := h.hr; have := h.hM; omega), h.kV.grown hg (fun q => by injection q with q; have := h.hr; have := h.hM; have := h.hV; omega),
    hb, only_trans h.g hg, h.hr, h.hM, h.hV⟩
theorem Mid.held {w W W' : World} {rb deep M V9 : Nat} {kk b d : Nat} {n : Int} {l : List UInt8} {bk : Nat} {bn : Int} {s : ByteArray} {a m p e : Int} (h : Mid w W rb deep M V9 kk b d n l bk bn s a m p e) (hg : Below W.heap.size W W') :
    Mid w W' rb deep M V9 kk b d n l bk bn s a m p e := h.grown (only_of_below hg _) (h.kB.below hg h.kB.lt)
/-- The end of a value that is refused. -/
theorem Mid.bad {w W : World} {rb deep M V9 : Nat} {kk b d : Nat} {n : Int} {l : List UInt8} {bk : Nat} {bn : Int} {s : ByteArray} {a m p e : Int} (h : Mid w W rb deep M V9 kk b d n l bk bn s a m p e) (u v x : Value) :
    RdB (((W.setCell ⟨w.heap.size + 1, 0, none⟩ u).setCell ⟨w.heap.size + 1, 1, none⟩ v).setCell ⟨w.heap.size + 1, 2, none⟩ x) rb s a m p e ∧ w.grownBy (((W.setCell ⟨w.heap.size + 1, 0, none⟩ u).setCell ⟨w.heap.size + 1, 1, none⟩ v).setCell ⟨w.heap.size + 1, 2, none⟩ x) (some rb) := by
  have hr := h.hr
  have e0 : ∀ i, rb ≠ (⟨w.heap.size + 1, i, none⟩ : Addr).block := fun i => by show rb ≠ w.heap.size + 1; omega
  have e1 : ∀ i, (⟨w.heap.size + 1, i, none⟩ : Addr).block = rb ∨ w.heap.size ≤ (⟨w.heap.size + 1, i, none⟩ : Addr).block := fun i => .inr (Nat.le_succ _)
  exact ⟨((h.kB.far (e0 0) _).far (e0 1) _).far (e0 2) _, only_setCell (only_setCell (only_setCell h.g (e1 0) _) (e1 1) _) (e1 2) _⟩
end Go.Proofs.YtbhekkkijomglaaGreatDoor
