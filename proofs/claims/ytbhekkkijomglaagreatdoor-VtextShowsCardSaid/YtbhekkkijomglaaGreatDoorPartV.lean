/- The walk of the statement VtextPart. -/
import Derived.Test.YtbhekkkijomglaaGreatDoorAwB
import Derived.Test.YtbhekkkijomglaaGreatDoorValPA
import Derived.Test.YtbhekkkijomglaaGreatDoorValL
import Derived.Laws.BytesString
namespace Go.Proofs.YtbhekkkijomglaaGreatDoor
open Go.RowKit

/-- What holds all along: the value that came in. -/
structure Pt (w W : World) (x : V) (A : Option Addr) (c : Nat) : Prop where
  e : Env W
  b : Below w.heap.size w W
  v : Vsl W W.heap.size A x.l
  k : Blk W w.heap.size 24 #[.int .u8 x.k, .int .i64 x.n, .slice A x.l.length c]
theorem Pt.held {w W W' : World} {x : V} {A : Option Addr} {c : Nat} (h : Pt w W x A c) (hb : Below W.heap.size W W') : Pt w W' x A c :=
  ⟨h.e.step hb, h.b.trans (hb.mono h.b.size), (h.v.held hb).more hb.size, h.k.below hb h.k.lt⟩
theorem Pt.alloc {w W : World} {x : V} {A : Option Addr} {c : Nat} (h : Pt w W x A c) (o : Obj) : Pt w (W.alloc o) x A c := h.held ((Below.refl _ _).alloc (Nat.le_refl _) o)
theorem pt_start {w : World} {x : V} {A : Option Addr} {c : Nat} (hv : Env w) (hV : Vsl w w.heap.size A x.l) : Pt w (w.alloc (.cells #[.int .u8 x.k, .int .i64 x.n, .slice A x.l.length c] 24)) x A c :=
  ⟨hv.alloc _, (Below.refl _ _).alloc (Nat.le_refl _) _, (hV.alloc (Nat.le_refl _) _).more (by simp), Blk.new _ _ _⟩
theorem vsl_one {W : World} {x : V} {A : Option Addr} {c : Nat} (hV : Vsl W W.heap.size A x.l) : Vsl (W.alloc (.cells #[.int .u8 x.k, .int .i64 x.n, .slice A x.l.length c] 24)) (W.alloc (.cells #[.int .u8 x.k, .int .i64 x.n, .slice A x.l.length c] 24)).heap.size (some ⟨W.heap.size, 0, none⟩) [x] := by
  have hk := Blk.new W 24 #[.int .u8 x.k, .int .i64 x.n, .slice A x.l.length c]
  refine .row W.heap.size 0 [x] (fun _ => A) (fun _ => c) hk.lt (fun i y hy => ?_) (fun i y hy => ?_)
  · match i, hy with
    | 0, hy => simp at hy; subst hy; exact ⟨hk.cell 0, hk.cell 1, hk.cell 2⟩
    | i + 1, hy => simp at hy
  · match i, hy with
    | 0, hy => simp at hy; subst hy; exact (hV.alloc (Nat.le_refl _) _).more (by simp)
    | i + 1, hy => simp at hy
theorem long_one (x : V) (A : Option Addr) (c : Nat) (W : World) (hV : Vsl W W.heap.size A x.l) (hF : x.Fits) :
    Calls Tryz.prog 11 #[.slice (some ⟨W.heap.size, 0, none⟩) 1 1] (W.alloc (.cells #[.int .u8 x.k, .int .i64 x.n, .slice A x.l.length c] 24)) fun e w' => e = .returned (.bool (decide (6000 ≤ V.weighs [x] 0 6000))) ∧ Below W.heap.size W w' :=
  (vlong_any [x] (some ⟨W.heap.size, 0, none⟩) 1 _ (by simp) (fun y hy => by simp at hy; subst hy; exact hF) (vsl_one (c := c) hV)).mono fun e w' ⟨h1, h2⟩ => ⟨h1, ((Below.refl W.heap.size W).alloc (Nat.le_refl _) _).trans (h2.mono (by simp))⟩

theorem conv_one (n : Int) (W : World) : (Go.convert 40 9 (.slice (some ⟨W.heap.size, 0, none⟩) 1 1)).run Tryz.prog (W.alloc (.cells #[.int .u8 n] 5)) = .ok (.string (bs [UInt8.ofNat n.toNat])) (W.alloc (.cells #[.int .u8 n] 5)) := by
  rw [run_convert_bytes_string _ _ _ 5 _ _ _ Tryz.underlying40 Tryz.underlying5 Tryz.underlying9, run_bytesToString _ _ _ _ [n] (by simp [loadCells, go_sem])]
  rfl
def sepS : ByteArray := ⟨#[32, 10, 40, 41, 91, 93, 60, 62]⟩
theorem sep_stop : ∀ k : Fin 8, stopB (sepS.data[k.val]'(by have := k.isLt; show k.val < 8; omega)) = true := by decide
/-- What Part tells of a text in which a value's text stands. -/
theorem part_in (x : V) (s tx T : ByteArray) (r : List UInt8) (hT : T.data.toList = s.data.toList ++ (x.text ++ r)) (htx : tx = bs x.text) (hc : x.check = 0) (hr : Stops r) (hsz : T.size ≤ 1048576) (W : World) (hv : Env W) :
    Calls Tryz.prog 18 #[.string T, .int .i64 s.size] W fun e w' => ∃ A c, e = .returned (.tuple #[.agg #[.int .u8 x.k, .int .i64 x.n, .slice A x.l.length c], .int .i64 ((s.size : Int) + (tx.size : Int)), .int .i64 0, .int .i64 0]) ∧ Below W.heap.size W w' ∧ Vsl w' w'.heap.size A x.l := by
  have h := part_any T s.size W hsz hv
  have hl : s.data.toList.length = s.size := by simp
  have hp := part_text hc s.data.toList r hr
  rw [← hT, hl] at hp
  rw [hp] at h
  refine h.mono fun e w' ⟨A, c, h1, h2, h3⟩ => ⟨A, c, ?_, h2, h3.fresh_vsl⟩
  rw [h1, htx, bs_size]
  rfl

set_option maxRecDepth 100000 in
set_option maxHeartbeats 8000000 in
theorem part_walk (x : V) (A : Option Addr) (c : Nat) (s t : ByteArray) (bt : Int) (w : World) (hv : Env w) (hV : Vsl w w.heap.size A x.l) (hF : x.Fits) (hs : s.size ≤ 140737488351232) (ht : t.size ≤ 140737488351232) (hb0 : 0 ≤ bt) (hb1 : bt ≤ 255) :
    Calls Tryz.prog 6 #[.agg #[.int .u8 x.k, .int .i64 x.n, .slice A x.l.length c], .string s, .string t, .int .u8 bt] w fun e w' => e = .returned (.bool true) ∧ Below w.heap.size w w' := by
  have HA := Lib.hid (fun W hW => awake_any W hW)
  have P0 := pt_start (c := c) hv hV
  have hL := long_one x A c _ P0.v hF
  have HP := Lib.hid P0
  rw [World.size_alloc] at hL
  have hsum : IntKind.i64.wrap ((s.size : Int) + (t.size : Int)) = (s.size : Int) + (t.size : Int) := IntWalk.i64_in _ ⟨by omega, by omega⟩
  clear P0 hv hV
  by_cases hlong : 6000 ≤ V.weighs [x] 0 6000
  · rw [decide_eq_true hlong] at hL
    have HLo := Lib.hid hL
    clear hL hlong
    go_enter Tryz.func6, Tryz.ntmps6
    go_wp2_with fail
    refine HLo.out.mono ?_
    rintro e w1 ⟨rfl, hb⟩
    have HQ := Lib.hid (HP.out.held (by simpa using hb))
    clear hb
    go_wp2_with fail
    refine (HA.out _ HQ.out.e).mono ?_
    rintro e w2 ⟨rfl, hb2⟩
    have HX := Lib.hid (HQ.out.held hb2)
    clear hb2
    go_wp2_with fail
    go_ret
    exact ⟨rfl, HX.out.b⟩
  · rw [decide_eq_false hlong] at hL
    have hsz : x.size < 6000 := by
      have h := weighs_size [x] 0 6000 (by omega)
      rw [V.sizes, V.sizes] at h
      omega
    have HLo := Lib.hid hL
    clear hL hlong
    by_cases h20 : 20000 < s.size + t.size
    · have h1 : (20000 : Int) < (s.size : Int) + (t.size : Int) := by omega
      go_enter Tryz.func6, Tryz.ntmps6
      go_wp2_with fail
      refine HLo.out.mono ?_
      rintro e w1 ⟨rfl, hb⟩
      have HQ := Lib.hid (HP.out.held (by simpa using hb))
      clear hb
      go_wp2_with fail
      refine (HA.out _ HQ.out.e).mono ?_
      rintro e w2 ⟨rfl, hb2⟩
      have HX := Lib.hid (HQ.out.held hb2)
      clear hb2
      go_wp2_with fail
      go_ret
      exact ⟨rfl, HX.out.b⟩
    · have h1 : ¬ (20000 : Int) < (s.size : Int) + (t.size : Int) := by omega
      have HSh := Lib.hid (fun W (hW : Pt w W x A c) => vshow_any x A c W hW.e hW.v (by omega))
      change Hid (∀ W, Pt w W x A c → Calls Tryz.prog 13 #[.agg #[.int .u8 x.k, .int .i64 x.n, .slice A x.l.length c]] W fun e w' => e = .returned (.tuple #[.string (bs (showV x).1), .int .i64 (showV x).2]) ∧ Below W.heap.size W w') at HSh
      have hok := fun tx => showV_ok (v := x) (t := tx)
      generalize hsh : showV x = sh at *
      obtain ⟨tx, er⟩ := sh
      by_cases her : er = 0
      · subst her
        obtain ⟨hc0, htx, htl⟩ := hok tx rfl
        subst htx
        clear hok hsh
        have hm0 : 0 ≤ bt % 8 := by omega
        have hm1 : bt % 8 < 8 := by omega
        have hst := sep_stop ⟨(bt % 8).toNat, by omega⟩
        have htl2 : (bs x.text).size ≤ 65536 := by rw [bs_size]; exact htl
        have hst2 : (bs x.text).data.toList = x.text := bs_list _
        have hw2 : IntKind.i64.wrap ((s.size : Int) + ((bs x.text).size : Int)) = (s.size : Int) + ((bs x.text).size : Int) := IntWalk.i64_in _ ⟨by omega, by omega⟩
        have hpi := fun T r hT hr hsz => part_in x s (bs x.text) T r hT rfl hc0 hr hsz
        clear htl hc0
        generalize htx : bs x.text = tx at *
        have HPA : Hid (∀ u : UInt8, stopB u = true → ∀ W, Env W → Calls Tryz.prog 18 #[.string (s ++ tx ++ bs [u] ++ t), .int .i64 s.size] W fun e w' => ∃ A c, e = .returned (.tuple #[.agg #[.int .u8 x.k, .int .i64 x.n, .slice A x.l.length c], .int .i64 ((s.size : Int) + (tx.size : Int)), .int .i64 0, .int .i64 0]) ∧ Below W.heap.size W w' ∧ Vsl w' w'.heap.size A x.l) := fun u hu W hW =>
          hpi (s ++ tx ++ bs [u] ++ t) (u :: t.data.toList) (by simp [hst2, bs_list]) (fun b r q => by injection q with q _; subst q; exact hu) (by simp only [ByteArray.size_append, bs_size, List.length_singleton]; omega) W hW
        have HPB : Hid (∀ W, Env W → Calls Tryz.prog 18 #[.string (s ++ tx), .int .i64 s.size] W fun e w' => ∃ A c, e = .returned (.tuple #[.agg #[.int .u8 x.k, .int .i64 x.n, .slice A x.l.length c], .int .i64 ((s.size : Int) + (tx.size : Int)), .int .i64 0, .int .i64 0]) ∧ Below W.heap.size W w' ∧ Vsl w' w'.heap.size A x.l) := fun W hW =>
          hpi (s ++ tx) [] (by simp [hst2]) (fun b r q => by cases q) (by simp only [ByteArray.size_append]; omega) W hW
        clear hpi
        have HST := Lib.hid hst
        clear hst hst2
        have hcv := conv_one
        have hu1 : ∀ b : UInt8, (bs [b]).size = 1 := fun b => bs_size [b]
        go_enter Tryz.func6, Tryz.ntmps6
        go_wp2_with fail
        refine HLo.out.mono ?_
        rintro e w1 ⟨rfl, hb⟩
        have HQ := Lib.hid (HP.out.held (by simpa using hb))
        clear hb
        go_wp2_with fail
        refine (HA.out _ HQ.out.e).mono ?_
        rintro e w2 ⟨rfl, hb2⟩
        have hX := HQ.out.held hb2
        obtain ⟨⟨z0, z1, z2⟩, _⟩ := hX.k.three
        have HX := Lib.hid hX
        clear hb2 hX
        go_wp2_with fail
        refine (HSh.out _ HX.out).mono ?_
        rintro e w3 ⟨rfl, hb3⟩
        have HY := Lib.hid (HX.out.held hb3)
        clear hb3 z0 z1 z2
        go_wp2_with fail
        refine (HPA.out _ HST.out _ ?_).mono ?_
        · exact HY.out.e.alloc _
        rintro e w4 ⟨A1, c1, rfl, hb4, hV1⟩
        have hP4 := (HY.out.alloc _).held hb4
        have hB1 := Blk.new w4 24 #[.int .u8 x.k, .int .i64 x.n, .slice A1 x.l.length c1]
        have H4 := Lib.hid (And.intro (hP4.alloc (.cells #[.int .u8 x.k, .int .i64 x.n, .slice A1 x.l.length c1] 24)) (And.intro hB1 ((hV1.alloc (Nat.le_refl _) (.cells #[.int .u8 x.k, .int .i64 x.n, .slice A1 x.l.length c1] 24)).more (B' := (w4.alloc (.cells #[.int .u8 x.k, .int .i64 x.n, .slice A1 x.l.length c1] 24)).heap.size) (by simp))))
        clear hb4 hV1 hP4 hB1
        go_wp2_with fail
        refine (HPB.out _ H4.out.1.e).mono ?_
        rintro e w5 ⟨A2, c2, rfl, hb5, hV2⟩
        have hal := (Below.refl w5.heap.size w5).alloc (Nat.le_refl _) (.cells #[.int .u8 x.k, .int .i64 x.n, .slice A2 x.l.length c2] 24)
        have hP6 := (H4.out.1.held hb5).held hal
        have hB1 := (H4.out.2.1.below hb5 H4.out.2.1.lt).below hal (Nat.lt_of_lt_of_le H4.out.2.1.lt hb5.size)
        have hV1 := ((H4.out.2.2.held hb5).more hb5.size).held hal |>.more hal.size
        have hB2 := Blk.new w5 24 #[.int .u8 x.k, .int .i64 x.n, .slice A2 x.l.length c2]
        have hV2' := (hV2.held hal).more hal.size
        obtain ⟨⟨z0, z1, z2⟩, _⟩ := hP6.k.three
        obtain ⟨⟨y0, y1, y2⟩, _⟩ := hB1.three
        have hS1 := (vsame_eq x A1 A c1 c _ (by omega) hV1 hP6.v)
        change Calls Tryz.prog 19 #[.agg #[.int .u8 x.k, .int .i64 x.n, .slice A1 x.l.length c1], .agg #[.int .u8 x.k, .int .i64 x.n, .slice A x.l.length c]] _ _ at hS1
        have HS1 := Lib.hid hS1
        have H6 := Lib.hid (And.intro hP6 (And.intro hB2 hV2'))
        clear hb5 hV2 hal hP6 hB1 hV1 hB2 hV2' hS1 H4
        go_wp2_with fail
        refine HS1.out.mono ?_
        rintro e w7 ⟨rfl, hb7⟩
        clear z0 z1 z2 y0 y1 y2 HS1
        have hP7 := H6.out.1.held hb7
        have hB7 := H6.out.2.1.below hb7 H6.out.2.1.lt
        have hV7 := (H6.out.2.2.held hb7).more hb7.size
        obtain ⟨⟨z0, z1, z2⟩, _⟩ := hP7.k.three
        obtain ⟨⟨y0, y1, y2⟩, _⟩ := hB7.three
        have hS2 := (vsame_eq x A2 A c2 c _ (by omega) hV7 hP7.v)
        change Calls Tryz.prog 19 #[.agg #[.int .u8 x.k, .int .i64 x.n, .slice A2 x.l.length c2], .agg #[.int .u8 x.k, .int .i64 x.n, .slice A x.l.length c]] _ _ at hS2
        have HS2 := Lib.hid hS2
        have H7 := Lib.hid hP7
        clear hb7 hP7 hB7 hV7 hS2 H6
        go_wp2_with fail
        refine HS2.out.mono ?_
        rintro e w8 ⟨rfl, hb8⟩
        have H8 := Lib.hid (H7.out.held hb8)
        clear hb8
        go_wp2_with fail
        go_ret
        exact ⟨rfl, H8.out.b⟩
      · have e1 : ((er : Int) == 0) = false := beq_eq_false_iff_ne.2 (by omega)
        have e2 : ((er : Int) != 0) = true := bne_iff_ne.2 (by omega)
        clear hok hsh her hs ht
        go_enter Tryz.func6, Tryz.ntmps6
        go_wp2_with fail
        refine HLo.out.mono ?_
        rintro e w1 ⟨rfl, hb⟩
        have HQ := Lib.hid (HP.out.held (by simpa using hb))
        clear hb
        go_wp2_with fail
        refine (HA.out _ HQ.out.e).mono ?_
        rintro e w2 ⟨rfl, hb2⟩
        have hX := HQ.out.held hb2
        obtain ⟨⟨z0, z1, z2⟩, _⟩ := hX.k.three
        have HX := Lib.hid hX
        clear hb2 hX
        go_wp2_with fail
        refine (HSh.out _ HX.out).mono ?_
        rintro e w3 ⟨rfl, hb3⟩
        have HY := Lib.hid (HX.out.held hb3)
        clear hb3
        go_wp2_with fail
        go_ret
        exact ⟨rfl, HY.out.b⟩
theorem part_row (x : V) (A : Option Addr) (c : Nat) (s t : ByteArray) (bt : Int) (w : World) (hv : Env w) (hV : Vsl w w.heap.size A x.l) (hF : x.Fits) (hs : s.size ≤ 140737488351232) (ht : t.size ≤ 140737488351232) (hb : 0 ≤ bt ∧ bt ≤ 255) :
    Calls Tryz.prog 6 #[.agg #[.int .u8 x.k, .int .i64 x.n, .slice A x.l.length c], .string s, .string t, .int .u8 bt] w fun e w' => e = .returned (.bool true) ∧ Below w.heap.size w w' := part_walk x A c s t bt w hv hV hF hs ht hb.1 hb.2
end Go.Proofs.YtbhekkkijomglaaGreatDoor
