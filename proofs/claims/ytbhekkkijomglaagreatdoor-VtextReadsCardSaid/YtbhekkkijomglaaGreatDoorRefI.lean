/- The walks of the reference's whole numbers: Make, Read, Small. -/
import Derived.Test.YtbhekkkijomglaaGreatDoorRefRZ
namespace Go.Proofs.YtbhekkkijomglaaGreatDoor
open Go.RowKit

/-- A whole number's value holds a sign and a natural. -/
def IntVal (b : Nat) (w : World) (neg : Bool) (v : Nat) (x : Value) : Prop := ∃ B d, x = .agg #[.bool neg, .slice B (dgs (65536 ^ 4) v).length d] ∧ Nsl w B (dgs (65536 ^ 4) v) ∧ ∀ a, B = some a → b ≤ a.block
theorem IntVal.below {b : Nat} {w w' : World} {neg : Bool} {v : Nat} {x : Value} (h : IntVal b w neg v x) (hb : Below w.heap.size w w') : IntVal b w' neg v x := by
  obtain ⟨B, d, e, hB, hg⟩ := h
  exact ⟨B, d, e, hB.below hb, hg⟩
theorem IntVal.zero (b : Nat) (w : World) : IntVal b w false 0 (.agg #[.bool false, .slice none 0 0]) :=
  ⟨none, 0, by rw [dgs_zero]; rfl, by rw [dgs_zero]; exact Nsl.nil _ _, fun _ h => by cases h⟩

theorem own_nsl_ge {w : World} {B : Nat} {T : TypeId} {v : Value} {xs : List Nat} (h : w.ownsRow B T 1 v xs.length (uCells xs)) :
    ∃ A c, v = .slice A xs.length c ∧ Nsl w A xs ∧ xs.length ≤ c ∧ ∀ a, A = some a → B ≤ a.block := by
  obtain ⟨A, c, rfl, hA, hc⟩ := own_nsl h
  exact ⟨A, c, rfl, hA, hc, fun a ha => (h.lt a.block (by subst ha; rfl)).1⟩
theorem Nsl.set_ {w : World} {A : Option Addr} {xs : List Nat} (h : Nsl w A xs) {p : Addr} (hp : ∀ a, A = some a → a.block ≠ p.block) (u : Value) : Nsl (w.setCell p u) A xs := fun hn => by
  obtain ⟨g, o, e, hg, hc⟩ := h hn
  refine ⟨g, o, e, by simpa [World.setCell] using hg, fun k x hx => ?_⟩
  rw [World.cell?_setCell_other w p ⟨g, o + k, none⟩ u (by intro e2; exact hp _ e (by first | exact congrArg Addr.block e2 | exact (congrArg Addr.block e2).symm))]
  exact hc k x hx

set_option maxRecDepth 100000 in
set_option maxHeartbeats 1000000 in
theorem make_any (neg : Bool) (zs : List Nat) (A : Option Addr) (n c : Nat) (w : World) (hl : zs.length = n) (hn : zs.length ≤ 100000) (hA : Nsl w A zs) (hlt : ∀ x ∈ zs, x < 65536 ^ 4) :
    Calls Tryz.prog 73 #[.bool neg, .slice A n c] w fun e w' => ∃ x, e = .returned x ∧ IntVal w.heap.size w' (neg && decide (0 < dv (65536 ^ 4) zs)) (dv (65536 ^ 4) zs) x ∧ Below w.heap.size w w' := by
  have TT := fun W h => trim_any' zs A n c W hl hn h hlt
  have HT := Lib.hid TT
  clear TT hl hn hlt
  generalize dv (65536 ^ 4) zs = v at *
  have hlen : (dgs (65536 ^ 4) v).length = 0 ↔ v = 0 := by rw [List.length_eq_zero_iff]; exact dgs_nil (by decide) v
  have HIV : Hid (∀ (W : World) b B d, Nsl W B (dgs (65536 ^ 4) v) → b = (neg && decide (0 < v)) → (∀ a, B = some a → w.heap.size ≤ a.block) → IntVal w.heap.size W (neg && decide (0 < v)) v (.agg #[.bool b, .slice B (dgs (65536 ^ 4) v).length d])) := fun W b B d hB hb hg => ⟨B, d, by rw [hb], hB, hg⟩
  by_cases hv : 0 < v
  · have hp : 0 < (dgs (65536 ^ 4) v).length := by
      rcases Nat.eq_zero_or_pos (dgs (65536 ^ 4) v).length with h | h
      · have := hlen.1 h; omega
      · exact h
    have hdec : decide (0 < v) = true := decide_eq_true hv
    rw [hdec] at HIV ⊢
    clear hlen hdec hv
    generalize dgs (65536 ^ 4) v = out at *
    cases neg
    · go_enter Tryz.func73, Tryz.ntmps73
      go_wp2_with fail
      refine (HT.out _ (hA.below ((Below.refl _ _).alloc (Nat.le_refl _) _))).mono ?_
      rintro e w1 ⟨v1, rfl, hown, hb⟩
      obtain ⟨B, d, rfl, hB, _, hge⟩ := own_nsl_ge hown
      clear hown
      have hz : w.heap.size + 1 ≤ w1.heap.size := by have := hb.size; simpa using this
      have hge2 : ∀ a, B = some a → a.block ≠ w.heap.size := fun a ha e => by have := hge a ha; simp at this; omega
      have hbw : Below w.heap.size w w1 := ((Below.refl w.heap.size w).alloc (Nat.le_refl _) (.cells #[.bool false, .slice none 0 0] 104)).trans (hb.mono (by simp))
      have hblk : Blk w1 w.heap.size 104 #[.bool false, .slice none 0 0] := (Blk.new w _ _).below hb (by simp)
      have c0 : w1.cell? ⟨w.heap.size, 0, none⟩ = some (.bool false) := by rw [hb.cell (p := ⟨w.heap.size, 0, none⟩) (by simp)]; simp
      have c1 : w1.cell? ⟨w.heap.size, 1, none⟩ = some (.slice none 0 0) := by rw [hb.cell (p := ⟨w.heap.size, 1, none⟩) (by simp)]; simp
      have f0 : w1.frozen? ⟨w.heap.size, 0, none⟩ = false := by rw [hb.frozen (p := ⟨w.heap.size, 0, none⟩) (by simp)]; simp
      have f1 : w1.frozen? ⟨w.heap.size, 1, none⟩ = false := by rw [hb.frozen (p := ⟨w.heap.size, 1, none⟩) (by simp)]; simp
      have HGE := Lib.hid hge2
      have HGW : Hid (∀ a, B = some a → w.heap.size ≤ a.block) := fun a ha => by have := hge a ha; simp at this; omega
      clear hge hge2
      go_wp2_with fail
      have k1 : (w1.setCell ⟨w.heap.size, 0, none⟩ (.bool false)).cell? ⟨w.heap.size, 0, none⟩ = some (.bool false) := (hblk.set_ 0 _).cell 0
      have k2 : ((w1.setCell ⟨w.heap.size, 0, none⟩ (.bool false)).setCell ⟨w.heap.size, 1, none⟩ (.slice B out.length d)).cell? ⟨w.heap.size, 1, none⟩ = some (.slice B out.length d) := ((hblk.set_ 0 _).set_ 1 _).cell 1
      refine bodyPost_ret (v := .agg #[.bool false, .slice B out.length d]) (by simp [results, Tryz.results73, go_sem, hz, k1, k2]) rfl ⟨_, rfl, HIV.out _ _ B d ((hB.set_ HGE.out _).set_ HGE.out _) rfl HGW.out, (hbw.setCell (p := ⟨w.heap.size, 0, none⟩) (Nat.le_refl _) _).setCell (p := ⟨w.heap.size, 1, none⟩) (Nat.le_refl _) _⟩
    · go_enter Tryz.func73, Tryz.ntmps73
      go_wp2_with fail
      refine (HT.out _ (hA.below ((Below.refl _ _).alloc (Nat.le_refl _) _))).mono ?_
      rintro e w1 ⟨v1, rfl, hown, hb⟩
      obtain ⟨B, d, rfl, hB, _, hge⟩ := own_nsl_ge hown
      clear hown
      have hz : w.heap.size + 1 ≤ w1.heap.size := by have := hb.size; simpa using this
      have hge2 : ∀ a, B = some a → a.block ≠ w.heap.size := fun a ha e => by have := hge a ha; simp at this; omega
      have hbw : Below w.heap.size w w1 := ((Below.refl w.heap.size w).alloc (Nat.le_refl _) (.cells #[.bool false, .slice none 0 0] 104)).trans (hb.mono (by simp))
      have hblk : Blk w1 w.heap.size 104 #[.bool false, .slice none 0 0] := (Blk.new w _ _).below hb (by simp)
      have c0 : w1.cell? ⟨w.heap.size, 0, none⟩ = some (.bool false) := by rw [hb.cell (p := ⟨w.heap.size, 0, none⟩) (by simp)]; simp
      have c1 : w1.cell? ⟨w.heap.size, 1, none⟩ = some (.slice none 0 0) := by rw [hb.cell (p := ⟨w.heap.size, 1, none⟩) (by simp)]; simp
      have f0 : w1.frozen? ⟨w.heap.size, 0, none⟩ = false := by rw [hb.frozen (p := ⟨w.heap.size, 0, none⟩) (by simp)]; simp
      have f1 : w1.frozen? ⟨w.heap.size, 1, none⟩ = false := by rw [hb.frozen (p := ⟨w.heap.size, 1, none⟩) (by simp)]; simp
      have HGE := Lib.hid hge2
      have HGW : Hid (∀ a, B = some a → w.heap.size ≤ a.block) := fun a ha => by have := hge a ha; simp at this; omega
      clear hge hge2
      go_wp2_with fail
      have k1 : (w1.setCell ⟨w.heap.size, 0, none⟩ (.bool true)).cell? ⟨w.heap.size, 0, none⟩ = some (.bool true) := (hblk.set_ 0 _).cell 0
      have k2 : ((w1.setCell ⟨w.heap.size, 0, none⟩ (.bool true)).setCell ⟨w.heap.size, 1, none⟩ (.slice B out.length d)).cell? ⟨w.heap.size, 1, none⟩ = some (.slice B out.length d) := ((hblk.set_ 0 _).set_ 1 _).cell 1
      refine bodyPost_ret (v := .agg #[.bool true, .slice B out.length d]) (by simp [results, Tryz.results73, go_sem, hz, k1, k2]) rfl ⟨_, rfl, HIV.out _ _ B d ((hB.set_ HGE.out _).set_ HGE.out _) rfl HGW.out, (hbw.setCell (p := ⟨w.heap.size, 0, none⟩) (Nat.le_refl _) _).setCell (p := ⟨w.heap.size, 1, none⟩) (Nat.le_refl _) _⟩
  · obtain rfl : v = 0 := by omega
    have hd := dgs_zero (65536 ^ 4)
    have hdec : decide (0 < 0) = false := rfl
    rw [hdec, Bool.and_false] at HIV ⊢
    rw [hd] at HT HIV
    clear hlen hdec hv hd
    cases neg
    · go_enter Tryz.func73, Tryz.ntmps73
      go_wp2_with fail
      refine (HT.out _ (hA.below ((Below.refl _ _).alloc (Nat.le_refl _) _))).mono ?_
      rintro e w1 ⟨v1, rfl, hown, hb⟩
      obtain ⟨B, d, rfl, hB, _, hge⟩ := own_nsl_ge hown
      clear hown
      have hz : w.heap.size + 1 ≤ w1.heap.size := by have := hb.size; simpa using this
      have hge2 : ∀ a, B = some a → a.block ≠ w.heap.size := fun a ha e => by have := hge a ha; simp at this; omega
      have hbw : Below w.heap.size w w1 := ((Below.refl w.heap.size w).alloc (Nat.le_refl _) (.cells #[.bool false, .slice none 0 0] 104)).trans (hb.mono (by simp))
      have hblk : Blk w1 w.heap.size 104 #[.bool false, .slice none 0 0] := (Blk.new w _ _).below hb (by simp)
      have c0 : w1.cell? ⟨w.heap.size, 0, none⟩ = some (.bool false) := by rw [hb.cell (p := ⟨w.heap.size, 0, none⟩) (by simp)]; simp
      have c1 : w1.cell? ⟨w.heap.size, 1, none⟩ = some (.slice none 0 0) := by rw [hb.cell (p := ⟨w.heap.size, 1, none⟩) (by simp)]; simp
      have f0 : w1.frozen? ⟨w.heap.size, 0, none⟩ = false := by rw [hb.frozen (p := ⟨w.heap.size, 0, none⟩) (by simp)]; simp
      have f1 : w1.frozen? ⟨w.heap.size, 1, none⟩ = false := by rw [hb.frozen (p := ⟨w.heap.size, 1, none⟩) (by simp)]; simp
      have HGE := Lib.hid hge2
      have HGW : Hid (∀ a, B = some a → w.heap.size ≤ a.block) := fun a ha => by have := hge a ha; simp at this; omega
      clear hge hge2
      go_wp2_with fail
      have k1 : (w1.setCell ⟨w.heap.size, 0, none⟩ (.bool false)).cell? ⟨w.heap.size, 0, none⟩ = some (.bool false) := (hblk.set_ 0 _).cell 0
      have k2 : ((w1.setCell ⟨w.heap.size, 0, none⟩ (.bool false)).setCell ⟨w.heap.size, 1, none⟩ (.slice B 0 d)).cell? ⟨w.heap.size, 1, none⟩ = some (.slice B 0 d) := ((hblk.set_ 0 _).set_ 1 _).cell 1
      refine bodyPost_ret (v := .agg #[.bool false, .slice B [].length d]) (by simp [results, Tryz.results73, go_sem, hz, k1, k2]) rfl ⟨_, rfl, HIV.out _ false B d ((hB.set_ HGE.out _).set_ HGE.out _) rfl HGW.out, (hbw.setCell (p := ⟨w.heap.size, 0, none⟩) (Nat.le_refl _) _).setCell (p := ⟨w.heap.size, 1, none⟩) (Nat.le_refl _) _⟩
    · go_enter Tryz.func73, Tryz.ntmps73
      go_wp2_with fail
      refine (HT.out _ (hA.below ((Below.refl _ _).alloc (Nat.le_refl _) _))).mono ?_
      rintro e w1 ⟨v1, rfl, hown, hb⟩
      obtain ⟨B, d, rfl, hB, _, hge⟩ := own_nsl_ge hown
      clear hown
      have hz : w.heap.size + 1 ≤ w1.heap.size := by have := hb.size; simpa using this
      have hge2 : ∀ a, B = some a → a.block ≠ w.heap.size := fun a ha e => by have := hge a ha; simp at this; omega
      have hbw : Below w.heap.size w w1 := ((Below.refl w.heap.size w).alloc (Nat.le_refl _) (.cells #[.bool false, .slice none 0 0] 104)).trans (hb.mono (by simp))
      have hblk : Blk w1 w.heap.size 104 #[.bool false, .slice none 0 0] := (Blk.new w _ _).below hb (by simp)
      have c0 : w1.cell? ⟨w.heap.size, 0, none⟩ = some (.bool false) := by rw [hb.cell (p := ⟨w.heap.size, 0, none⟩) (by simp)]; simp
      have c1 : w1.cell? ⟨w.heap.size, 1, none⟩ = some (.slice none 0 0) := by rw [hb.cell (p := ⟨w.heap.size, 1, none⟩) (by simp)]; simp
      have f0 : w1.frozen? ⟨w.heap.size, 0, none⟩ = false := by rw [hb.frozen (p := ⟨w.heap.size, 0, none⟩) (by simp)]; simp
      have f1 : w1.frozen? ⟨w.heap.size, 1, none⟩ = false := by rw [hb.frozen (p := ⟨w.heap.size, 1, none⟩) (by simp)]; simp
      have HGE := Lib.hid hge2
      have HGW : Hid (∀ a, B = some a → w.heap.size ≤ a.block) := fun a ha => by have := hge a ha; simp at this; omega
      clear hge hge2
      go_wp2_with fail
      have k1 : (w1.setCell ⟨w.heap.size, 0, none⟩ (.bool false)).cell? ⟨w.heap.size, 0, none⟩ = some (.bool false) := (hblk.set_ 0 _).cell 0
      have k2 : ((w1.setCell ⟨w.heap.size, 0, none⟩ (.bool false)).setCell ⟨w.heap.size, 1, none⟩ (.slice B 0 d)).cell? ⟨w.heap.size, 1, none⟩ = some (.slice B 0 d) := ((hblk.set_ 0 _).set_ 1 _).cell 1
      refine bodyPost_ret (v := .agg #[.bool false, .slice B [].length d]) (by simp [results, Tryz.results73, go_sem, hz, k1, k2]) rfl ⟨_, rfl, HIV.out _ false B d ((hB.set_ HGE.out _).set_ HGE.out _) rfl HGW.out, (hbw.setCell (p := ⟨w.heap.size, 0, none⟩) (Nat.le_refl _) _).setCell (p := ⟨w.heap.size, 1, none⟩) (Nat.le_refl _) _⟩
end Go.Proofs.YtbhekkkijomglaaGreatDoor
