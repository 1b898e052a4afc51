/- The walk of the reference's value: cut at the joins. -/
import Derived.Test.YtbhekkkijomglaaGreatDoorRtFZ
import Derived.Test.YtbhekkkijomglaaGreatDoorRdIZ
import Derived.Deep.RegionLaw
namespace Go.Proofs.YtbhekkkijomglaaGreatDoor
open Go.RowKit

/-- What the mark begins: its error, its value, the kind of the bracket that ends it. -/
def Kinds (kk : Nat) (n : Int) (l : List UInt8) (be bk : Nat) (bn : Int) (cl : Nat) : Prop :=
  (kk = 10 ∧ be = 4 ∧ bk = 0 ∧ bn = 0 ∧ cl = 0) ∨ (kk = 8 ∧ be = 0 ∧ bk = 1 ∧ bn = n ∧ cl = 0) ∨ (kk = 7 ∧ ((bs l).toList == [116, 114, 117, 101]) = true ∧ be = 0 ∧ bk = 2 ∧ bn = 1 ∧ cl = 0) ∨
  (kk = 7 ∧ ((bs l).toList == [116, 114, 117, 101]) = false ∧ ((bs l).toList == [102, 97, 108, 115, 101]) = true ∧ be = 0 ∧ bk = 2 ∧ bn = 0 ∧ cl = 0) ∨ (kk = 5 ∧ be = 0 ∧ bk = 3 ∧ bn = 0 ∧ cl = 6) ∨ (kk = 3 ∧ be = 0 ∧ bk = 4 ∧ bn = 0 ∧ cl = 4) ∨
  (kk = 7 ∧ ((bs l).toList == [116, 114, 117, 101]) = false ∧ ((bs l).toList == [102, 97, 108, 115, 101]) = false ∧ be = 3 ∧ bk = 0 ∧ bn = 0 ∧ cl = 0) ∨ ((kk ≠ 10 ∧ kk ≠ 8 ∧ kk ≠ 7 ∧ kk ≠ 5 ∧ kk ≠ 3) ∧ be = 3 ∧ bk = 0 ∧ bn = 0 ∧ cl = 0)
set_option maxRecDepth 100000 in
/-- The frame behind the switch: what stands in the slots that are still read. -/
def Fr9 (w : World) (M g deep item cl : Nat) (fr : Act) : Prop := ∃ (fl : Nat → Value), fr = { tmps := #[.pointer (some ⟨g, 0, none⟩), .int .i64 deep, .int .i64 item, (fl 3), (fl 4), (fl 5), .pointer (some ⟨w.heap.size, 0, none⟩), .pointer (some ⟨M, 0, none⟩), .pointer (some ⟨M + 1, 0, none⟩), .int .u8 cl, (fl 10), (fl 11), (fl 12), (fl 13), (fl 14), (fl 15), (fl 16), (fl 17), (fl 18), (fl 19), (fl 20), (fl 21), (fl 22), (fl 23), (fl 24), (fl 25), (fl 26), (fl 27), (fl 28), (fl 29), (fl 30), (fl 31), (fl 32), (fl 33), (fl 34), (fl 35), (fl 36), (fl 37), (fl 38), (fl 39), (fl 40), (fl 41), (fl 42), (fl 43), (fl 44), (fl 45), (fl 46), (fl 47), (fl 48), (fl 49), (fl 50), (fl 51), (fl 52), (fl 53), (fl 54), (fl 55), (fl 56), (fl 57), (fl 58), (fl 59), (fl 60), (fl 61), (fl 62), (fl 63), (fl 64), (fl 65), (fl 66), (fl 67), (fl 68), (fl 69), (fl 70), (fl 71), (fl 72), (fl 73), (fl 74), (fl 75), (fl 76), (fl 77), (fl 78), (fl 79), (fl 80), (fl 81), (fl 82), (fl 83), (fl 84), (fl 85), (fl 86), (fl 87), (fl 88), (fl 89), (fl 90), (fl 91), (fl 92), (fl 93), (fl 94), (fl 95), (fl 96), (fl 97), (fl 98), (fl 99), (fl 100), (fl 101), (fl 102), (fl 103), (fl 104), (fl 105), (fl 106), (fl 107), (fl 108), (fl 109), (fl 110), (fl 111), (fl 112), (fl 113), (fl 114), (fl 115), (fl 116), (fl 117), (fl 118), (fl 119), (fl 120), (fl 121), (fl 122), (fl 123), (fl 124), (fl 125), (fl 126), (fl 127), (fl 128), (fl 129), (fl 130), (fl 131), (fl 132), (fl 133), (fl 134), (fl 135), (fl 136), (fl 137), (fl 138), (fl 139), (fl 140), (fl 141), (fl 142), (fl 143), (fl 144), (fl 145), (fl 146), (fl 147), (fl 148), (fl 149), (fl 150), (fl 151), (fl 152), (fl 153), (fl 154), (fl 155), (fl 156), (fl 157), (fl 158), (fl 159), (fl 160), (fl 161), (fl 162), (fl 163), (fl 164), (fl 165), (fl 166), (fl 167), (fl 168), (fl 169), (fl 170), (fl 171), (fl 172), (fl 173), (fl 174), (fl 175), (fl 176), (fl 177), (fl 178)], defers := [] }
theorem list_fun (l : List Value) (n : Nat) (h : l.length = n) : l = (List.range n).map (fun i => l.getD i undef) := by
  subst h
  apply List.ext_getElem?
  intro i
  by_cases hi : i < l.length
  · rw [List.getElem?_map, List.getElem?_range hi, Option.map_some, List.getD_eq_getElem?_getD, List.getElem?_eq_getElem hi]; rfl
  · rw [List.getElem?_eq_none (by omega), List.getElem?_eq_none (by simp; omega)]
set_option maxRecDepth 100000 in
theorem range_179 (f : Nat → Value) : (List.range 179).map f = [f 0, f 1, f 2, f 3, f 4, f 5, f 6, f 7, f 8, f 9, f 10, f 11, f 12, f 13, f 14, f 15, f 16, f 17, f 18, f 19, f 20, f 21, f 22, f 23, f 24, f 25, f 26, f 27, f 28, f 29, f 30, f 31, f 32, f 33, f 34, f 35, f 36, f 37, f 38, f 39, f 40, f 41, f 42, f 43, f 44, f 45, f 46, f 47, f 48, f 49, f 50, f 51, f 52, f 53, f 54, f 55, f 56, f 57, f 58, f 59, f 60, f 61, f 62, f 63, f 64, f 65, f 66, f 67, f 68, f 69, f 70, f 71, f 72, f 73, f 74, f 75, f 76, f 77, f 78, f 79, f 80, f 81, f 82, f 83, f 84, f 85, f 86, f 87, f 88, f 89, f 90, f 91, f 92, f 93, f 94, f 95, f 96, f 97, f 98, f 99, f 100, f 101, f 102, f 103, f 104, f 105, f 106, f 107, f 108, f 109, f 110, f 111, f 112, f 113, f 114, f 115, f 116, f 117, f 118, f 119, f 120, f 121, f 122, f 123, f 124, f 125, f 126, f 127, f 128, f 129, f 130, f 131, f 132, f 133, f 134, f 135, f 136, f 137, f 138, f 139, f 140, f 141, f 142, f 143, f 144, f 145, f 146, f 147, f 148, f 149, f 150, f 151, f 152, f 153, f 154, f 155, f 156, f 157, f 158, f 159, f 160, f 161, f 162, f 163, f 164, f 165, f 166, f 167, f 168, f 169, f 170, f 171, f 172, f 173, f 174, f 175, f 176, f 177, f 178] := by kernel_rfl
set_option maxRecDepth 100000 in
theorem fr9_of (w : World) (M g deep item cl : Nat) (t : Array Value) (h : t.size = 179) (h0 : t[0]? = some (.pointer (some ⟨g, 0, none⟩))) (h1 : t[1]? = some (.int .i64 deep)) (h2 : t[2]? = some (.int .i64 item)) (h6 : t[6]? = some (.pointer (some ⟨w.heap.size, 0, none⟩)))
    (h7 : t[7]? = some (.pointer (some ⟨M, 0, none⟩))) (h8 : t[8]? = some (.pointer (some ⟨M + 1, 0, none⟩))) (h9 : t[9]? = some (.int .u8 cl)) : Fr9 w M g deep item cl { tmps := t, defers := [] } := by
  obtain ⟨l⟩ := t
  have hl := list_fun l 179 h
  rw [range_179] at hl
  have e : ∀ (i : Nat) (v : Value), l[i]? = some v → l.getD i undef = v := fun i v q => by rw [List.getD_eq_getElem?_getD, q]; rfl
  refine ⟨fun i => l.getD i undef, ?_⟩
  have q0 := e 0 _ (by simpa using h0)
  have q1 := e 1 _ (by simpa using h1)
  have q2 := e 2 _ (by simpa using h2)
  have q6 := e 6 _ (by simpa using h6)
  have q7 := e 7 _ (by simpa using h7)
  have q8 := e 8 _ (by simpa using h8)
  have q9 := e 9 _ (by simpa using h9)
  rw [q0, q1, q2, q6, q7, q8, q9] at hl
  exact congrArg (fun x => Act.mk (Array.mk x) []) hl
/-- The first question that is answered no. -/
def FirstE (m deep item : Nat) (be bk : Nat) (bn : Int) (E0 : Nat) : Prop :=
  (be ≠ 0 → E0 = be) ∧ (be = 0 → 64 < item → E0 = 5) ∧ (be = 0 → ¬ 64 < item → 128 < deep → E0 = 9) ∧ (be = 0 → ¬ 64 < item → ¬ 128 < deep → 4096 < m + 1 → E0 = 5) ∧
  (be = 0 → ¬ 64 < item → ¬ 128 < deep → ¬ 4096 < m + 1 → bk = 1 → (bn < -1099511627776 ∨ 1099511627776 < bn) → E0 = 1) ∧
  (be = 0 → ¬ 64 < item → ¬ 128 < deep → ¬ 4096 < m + 1 → (bk = 1 → -1099511627776 ≤ bn ∧ bn ≤ 1099511627776) → E0 = 0)

set_option maxRecDepth 100000 in
set_option maxHeartbeats 32000000 in
theorem tval_gen (s : ByteArray) (a m deep item : Nat) (g : Nat) (w : World) (hs : s.size ≤ 20000) (ha : a ≤ s.size) (hm : m ≤ 4096) (hk : TxB w g s a m 0 0) (kk b d : Nat) (n : Int) (l : List UInt8) (pl : Nat) (hx : nx s.data.toList a = ((kk, b, d, n, l), pl, 0))
    (be bk : Nat) (bn : Int) (cl : Nat) (hki : Kinds kk n l be bk bn cl) (E0 : Nat) (hE : FirstE m deep item be bk bn E0) (PO : Ending → World → Prop) (hbad : E0 ≠ 0 → ∀ en w', TBad s g b E0 w en w' → PO en w') (F : Nat) (hTV : ∀ f, f < F → TV f) (hcl : E0 = 0 → cl ≠ 0 → (bk = 3 ∨ bk = 4) ∧ cl = overK bk ∧ bn = 0 ∧ m + 1 ≤ 4096 ∧ d ≤ s.size ∧ 1 ≤ deep ∧ 2 * (s.size - d) + 2 ≤ F) (hrok : E0 = 0 → cl ≠ 0 → ∀ vs a' m', pitems F s.data.toList d (m + 1) bk deep [] = .ok vs a' m' → ∀ en w', TOk s g (.mk bk 0 vs) a' m' w en w' → PO en w') (hrbad : E0 = 0 → cl ≠ 0 → ∀ p e, e ≠ 0 → pitems F s.data.toList d (m + 1) bk deep [] = .bad p e → ∀ en w', TBad s g p e w en w' → PO en w') (hleaf : E0 = 0 → cl = 0 → ∀ en w', TOk s g (.mk bk bn []) d (m + 1) w en w' → PO en w') :
    Calls Tryz.prog 37 #[.pointer (some ⟨g, 0, none⟩), .int .i64 deep, .int .i64 item] w PO := by
  have HM := Lib.hid (fun W hK => tmark_more s a m 0 g W hs ha hK kk b d n l pl hx)
  have hmw : IntKind.i64.wrap ((m : Int) + 1) = (m : Int) + 1 := IntWalk.i64_in _ ⟨by omega, by omega⟩
  have HK := Lib.hid (And.intro (hk.alloc zvR) hk.lt)
  have HTV := Lib.hid hTV; have HCL := Lib.hid hcl; have HROK := Lib.hid hrok; have HRBAD := Lib.hid hrbad; have HSS := Lib.hid hs
  have HE := Lib.hid hE; have HBAD := Lib.hid hbad; have HLEAF := Lib.hid hleaf; have HKI := Lib.hid hki
  unfold FirstE at HE
  clear hx hs ha hk hE hbad hleaf hki hTV hcl hrok hrbad
  go_enter Tryz.func37, Tryz.ntmps37
  go_wp2_with fail
  refine (HM.out _ HK.out.1).mono ?_
  rintro e' w1 ⟨rfl, hB, hg⟩
  have hrl := HK.out.2
  have hgs := hg.size
  rw [World.size_alloc] at hgs
  obtain ⟨⟨o0, o1, o2, o3, o4⟩, o5, o6, o7, o8, o9⟩ := (hB.alloc (.cells #[.int .u8 kk, .int .i64 b, .int .i64 d, .int .i64 n, .string (bs l)] 67)).five
  have HS := Lib.hid (sv_start (kk := kk) (b := b) (n := n) (l := l) hrl hB hg bk bn)
  have HMK := Lib.hid ((Blk.new w1 67 #[.int .u8 kk, .int .i64 b, .int .i64 d, .int .i64 n, .string (bs l)]).alloc (.cells #[.int .u8 0, .int .i64 0, .slice none 0 0] 24))
  clear hB hg HM HK
  simp only []
  repeat (first | (refine wp_seq_k (x := Code.block 0 _) ?_; intro K1 hK1; refine RowKit.Hid.out ?_) | go_values | go_skip | go_guarded | go_step | go_upon | go_back | (simp only [Int.not_lt, Int.not_le] at *; go_simp))
  have HK1 : Hid (∀ (fr : Act) (W : World) (e : Int), Fr9 w w1.heap.size g deep item cl fr → Sv w W g w1.heap.size (w1.heap.size + 1) s kk b d n l bk bn m e → (e ≠ 0 → e = (E0 : Int)) → (e = 0 → be = 0) → K1 fr W) := by
    rintro fr W e ⟨fl, rfl⟩ HS0 he1 he2
    refine hK1 _ _ ?_
    clear hK1
    refine wp_seq_k ?_
    intro K2 hK2
    have HK2 : Hid (∀ (fr : Act) (W : World) (e : Int), Fr9 w w1.heap.size g deep item cl fr → Sv w W g w1.heap.size (w1.heap.size + 1) s kk b d n l bk bn m e → (e ≠ 0 → e = (E0 : Int)) → (e = 0 → (be = 0 ∧ ¬ 64 < item)) → K2 fr W) := by
      rintro fr W e ⟨fl, rfl⟩ HS0 he1 he2
      refine hK2 _ _ ?_
      clear hK2
      refine wp_seq_k ?_
      intro K3 hK3
      have HK3 : Hid (∀ (fr : Act) (W : World) (e : Int), Fr9 w w1.heap.size g deep item cl fr → Sv w W g w1.heap.size (w1.heap.size + 1) s kk b d n l bk bn m e → (e ≠ 0 → e = (E0 : Int)) → (e = 0 → (be = 0 ∧ ¬ 64 < item ∧ ¬ 128 < deep)) → K3 fr W) := by
        rintro fr W e ⟨fl, rfl⟩ HS0 he1 he2
        refine hK3 _ _ ?_
        clear hK3
        refine wp_seq_k ?_
        intro K4 hK4
        have HK4 : Hid (∀ (fr : Act) (W : World) (e : Int), Fr9 w w1.heap.size g deep item cl fr → Sv w W g w1.heap.size (w1.heap.size + 1) s kk b d n l bk bn ((m : Int) + 1) e → (e ≠ 0 → e = (E0 : Int)) → (e = 0 → (be = 0 ∧ ¬ 64 < item ∧ ¬ 128 < deep)) → K4 fr W) := by
          rintro fr W e ⟨fl, rfl⟩ HS0 he1 he2
          refine hK4 _ _ ?_
          clear hK4
          refine wp_seq_k ?_
          intro K5 hK5
          have HK5 : Hid (∀ (fr : Act) (W : World) (e : Int), Fr9 w w1.heap.size g deep item cl fr → Sv w W g w1.heap.size (w1.heap.size + 1) s kk b d n l bk bn ((m : Int) + 1) e → (e ≠ 0 → e = (E0 : Int)) → (e = 0 → (be = 0 ∧ ¬ 64 < item ∧ ¬ 128 < deep ∧ ¬ 4096 < m + 1)) → K5 fr W) := by
            rintro fr W e ⟨fl, rfl⟩ HS0 he1 he2
            refine hK5 _ _ ?_
            clear hK5
            refine wp_seq_k ?_
            intro K6 hK6
            have HK6 : Hid (∀ (fr : Act) (W : World) (e : Int), Fr9 w w1.heap.size g deep item cl fr → Sv w W g w1.heap.size (w1.heap.size + 1) s kk b d n l bk bn ((m : Int) + 1) e → (e ≠ 0 → e = (E0 : Int)) → (e = 0 → (be = 0 ∧ ¬ 64 < item ∧ ¬ 128 < deep ∧ ¬ 4096 < m + 1 ∧ (bk = 1 → -1099511627776 ≤ bn ∧ bn ≤ 1099511627776))) → K6 fr W) := by
              rintro fr W e ⟨fl, rfl⟩ HS0 he1 he2
              refine hK6 _ _ ?_
              have HS := Lib.hid HS0
              clear HS0 hK6
              by_cases he : e = 0
              · subst he
                have h2 := he2 rfl
                have hE0 : E0 = 0 := HE.out.2.2.2.2.2 h2.1 h2.2.1 h2.2.2.1 h2.2.2.2.1 h2.2.2.2.2
                have hdp2 : deep ≤ 128 := by have := h2.2.2.1; omega
                clear he1 he2 h2
                by_cases hc0 : cl = 0
                · subst hc0
                  go_wp2_with fail
                  go_loopw [10] (fun x wr => Hid (Sv w wr g w1.heap.size (w1.heap.size + 1) s kk b d n l bk bn ((m : Int) + 1) 0)) (fun _ _ => 0)
                  case atStart => exact HS.out
                  case round =>
                    have HS := hrel
                    clear hrel
                    obtain ⟨⟨c2, c4, f2⟩, y1, ⟨v0, v1, v2⟩, ⟨z0, z1, z2⟩, g0, g1, g2⟩ := HS.out.cells
                    go_wp2_with fail
                    refine bodyPost_ret (v := .agg #[.int .u8 bk, .int .i64 bn, .slice none 0 0]) (by simp [results, Tryz.results37, go_sem, z0, z1, z2]) rfl ?_
                    obtain ⟨h1, h2⟩ := HS.out.good (.int .u8 bk) (.int .i64 bn) (.slice none 0 0)
                    exact HLEAF.out hE0 (by trivial) _ _ ⟨none, 0, rfl, h1, h2, .emp _⟩
                · obtain ⟨hbk, hclk, rfl, hm4, hds, hdp, hfu⟩ := HCL.out hE0 hc0
                  obtain ⟨R, hR⟩ : ∃ R, R = pitems F s.data.toList d (m + 1) bk deep [] := ⟨_, rfl⟩
                  have HR1 := Lib.hid (HROK.out hE0 hc0); have HR2 := Lib.hid (HRBAD.out hE0 hc0)
                  rw [← hR] at HR1 HR2
                  have hw1 := HS.out.hM
                  have HI : Hid (RowInv w g (w1.heap.size + 1) s bk deep F R W) := .inl ⟨d, m + 1, F, [], none, 0, hds, hm4, Nat.zero_le _, hfu, Nat.le_refl _, sv_sr HS.out, grow_start _ _ _ (by have := HS.out.kV.lt; omega), hR.symm⟩
                  have hcp : (0 : Int) < (cl : Int) := by omega
                  have HBK := Lib.hid hbk; have HCK := Lib.hid hclk
                  clear HS hR HLEAF HROK HRBAD HCL HBAD HE hfu hds hm4 hbk hclk
                  go_wp2_with fail
                  go_loopw [10] (fun x wr => Hid (RowInv w g (w1.heap.size + 1) s bk deep F R wr)) (fun _ wr => tLeft wr g s.size)
                  case atStart => exact HI.out
                  case round =>
                    clear HI
                    rcases hrel.out with ⟨a1, m1, f, acc, A0, c0, ha1, hm1, hacc, hf1, hf2, hS1, hG1, hP1⟩ | ⟨a2, m2, p2, e2, val, he2, hR2, hS2⟩
                    · clear hrel
                      obtain ⟨f, rfl⟩ : ∃ f', f = f' + 1 := ⟨f - 1, by omega⟩
                      obtain ⟨⟨⟨xk, xb, xd, xn, xl⟩, xp, xe⟩, hnx⟩ : ∃ x, nx s.data.toList a1 = x := ⟨_, rfl⟩
                      obtain ⟨c4, ⟨v0, v1, v2, f2⟩, ⟨z0, z1, z2⟩, g0, g1, g2⟩ := hS1.cells
                      have HS1 := Lib.hid hS1; have HG1 := Lib.hid hG1; have HP1 := Lib.hid hP1
                      have HNX := Lib.hid hnx
                      clear hS1 hG1 hP1 hnx
                      by_cases hxe : xe = 0
                      · subst hxe
                        go_wp2_with fail
                        refine (tmark_stay s a1 m1 0 g _ HSS.out ha1 HS1.out.kT xk xb xd xn xl xp HNX.out).mono ?_
                        rintro e' w2 ⟨rfl, hT2, hg2⟩
                        have hS2 := (HS1.out.grown hg2 hT2).alloc (.cells #[.int .u8 xk, .int .i64 xb, .int .i64 xd, .int .i64 xn, .string (bs xl)] 67)
                        have hk2 := Blk.new w2 67 #[.int .u8 xk, .int .i64 xb, .int .i64 xd, .int .i64 xn, .string (bs xl)]
                        have hG2 := (HG1.out.only hg2 (fun q h => by injection h with h; have := HS1.out.hr; omega)).below ((Below.refl _ _).alloc (Nat.le_refl _) (.cells #[.int .u8 xk, .int .i64 xb, .int .i64 xd, .int .i64 xn, .string (bs xl)] 67))
                        have HGS : Hid (w1.heap.size + 1 + 1 ≤ w2.heap.size) := by show _ ≤ _; have hq1 := HS1.out.kV.lt; have hq2 := hg2.size; omega
                        obtain ⟨⟨y0, y1, y2, y3, y4⟩, _⟩ := hk2.five
                        clear c4 v0 v1 v2 f2 z0 z1 z2 g0 g1 g2
                        obtain ⟨c4, ⟨v0, v1, v2, f2⟩, ⟨z0, z1, z2⟩, g0, g1, g2⟩ := hS2.cells
                        have HS2 := Lib.hid hS2; have HG2 := Lib.hid hG2; have HK2 := Lib.hid hk2
                        have HL := Lib.hid (tLeft_ok (n := s.size) HS1.out.kT)
                        clear hS2 hG2 hk2 hT2 hg2 HS1 HG1
                        by_cases hsh : shutsK xk
                        · have hsx := HP1.out
                          have hn3 : w2.heap.size ≠ g := by have := HS2.out.hr; have := HS2.out.hV; have := HGS.out; omega
                          have hx2 := fun q => pitems_e2 (f := f) (l := s.data.toList) (a := a1) (m := m1) (k := bk) (deep := deep) (acc := acc.map (·.1)) HNX.out rfl hsh q
                          have hx3 := fun q => pitems_e3 (f := f) (l := s.data.toList) (a := a1) (m := m1) (k := bk) (deep := deep) (acc := acc.map (·.1)) HNX.out rfl hsh q
                          rw [hsx] at hx2 hx3
                          have HX2 := Lib.hid hx2; have HX3 := Lib.hid hx3
                          have hs6 : xk = 2 ∨ xk = 4 ∨ xk = 6 := hsh
                          clear hx2 hx3 hsx
                          clear hsh
                          rcases hs6 with h6 | h6 | h6
                          · have e2 : ((xk : Int) == 2) = true := beq_iff_eq.2 (by omega)
                            by_cases hov : xk = cl
                            · have o1 : ((xk : Int) == (cl : Int)) = true := beq_iff_eq.2 (by omega)
                              have o2 : ((xk : Int) != (cl : Int)) = false := by rw [bne, o1]; rfl
                              have HO := Lib.hid hov
                              clear hov h6
                              go_wp2_with fail
                              refine (tmark_more s a1 m1 0 g _ HSS.out ha1 HS2.out.kT xk xb xd xn xl xp HNX.out).mono ?_
                              rintro e' w3 ⟨rfl, hT3, hg3⟩
                              have hS3 := HS2.out.grown hg3 hT3
                              have hG3 := HG2.out.only hg3 (fun q h => by injection h with h; have := HS2.out.hr; have := HS2.out.hV; omega)
                              have hk3 := HK2.out.grown hg3 (fun q => by injection q with q; exact hn3 q)
                              clear c4 v0 v1 v2 f2 z0 z1 z2 g0 g1 g2 y0 y1 y2 y3 y4
                              obtain ⟨⟨y0, y1, y2, y3, y4⟩, _⟩ := hk3.five
                              obtain ⟨c4, ⟨v0, v1, v2, f2⟩, ⟨z0, z1, z2⟩, g0, g1, g2⟩ := hS3.cells
                              have X := Lib.hid (And.intro hS3 hG3)
                              clear hS3 hG3 hk3 hT3 hg3 HS2 HG2 HK2
                              go_wp2_with fail
                              refine bodyPost_ret (v := .agg #[.int .u8 bk, .int .i64 0, .slice A0 acc.length c0]) (by simp [results, Tryz.results37, go_sem, z0, z1, z2]) rfl ?_
                              obtain ⟨h1, h2⟩ := X.out.1.bad (.int .u8 bk) (.int .i64 0) (.slice A0 acc.length c0)
                              refine HR1.out (acc.map (·.1)) xd m1 (HX3.out (by have := HCK.out; have := HO.out; omega)) _ _ ⟨A0, c0, by show _ = Ending.returned (.agg #[.int .u8 bk, .int .i64 0, .slice A0 (acc.map (·.1)).length c0]); rw [List.length_map], h1, h2, ?_⟩
                              exact (X.out.2.done.1).fresh_keep (only_setCell (only_setCell (only_setCell (only_refl w3 (some w.heap.size)) (p := ⟨w.heap.size, 0, none⟩) (.inl rfl) _) (p := ⟨w.heap.size, 1, none⟩) (.inl rfl) _) (p := ⟨w.heap.size, 2, none⟩) (.inl rfl) _) (by have := X.out.1.hV; omega) (fun q h => by injection h with h; have := X.out.1.hV; omega)
                            · have o1 : ((xk : Int) == (cl : Int)) = false := beq_eq_false_iff_ne.2 (by omega)
                              have o2 : ((xk : Int) != (cl : Int)) = true := by rw [bne, o1]; rfl
                              have HO := Lib.hid hov
                              clear hov h6
                              go_wp2_with fail
                              refine (tmark_more s a1 m1 0 g _ HSS.out ha1 HS2.out.kT xk xb xd xn xl xp HNX.out).mono ?_
                              rintro e' w3 ⟨rfl, hT3, hg3⟩
                              have hk3 := HK2.out.grown hg3 (fun q => by injection q with q; exact hn3 q)
                              clear c4 v0 v1 v2 f2 z0 z1 z2 g0 g1 g2 y0 y1 y2 y3 y4
                              obtain ⟨⟨y0, y1, y2, y3, y4⟩, _⟩ := hk3.five
                              have X := Lib.hid (HS2.out.grown hg3 hT3)
                              clear hk3 hT3 hg3 HS2 HG2 HK2
                              go_wp2_with fail
                              refine (tfail_first s xd m1 0 xb 3 g _ X.out.kT).mono ?_
                              rintro e' w4 ⟨rfl, hT4, hg4⟩
                              have hS4 := X.out.grown hg4 hT4
                              clear y0 y1 y2 y3 y4
                              obtain ⟨c4, ⟨v0, v1, v2, f2⟩, ⟨z0, z1, z2⟩, g0, g1, g2⟩ := hS4.cells
                              have Y := Lib.hid hS4
                              clear hS4 hT4 hg4 X
                              go_wp2_with fail
                              refine bodyPost_ret (v := .agg #[.int .u8 0, .int .i64 0, .slice none 0 0]) (by simp [results, Tryz.results37, go_sem, z0, z1, z2]) rfl ?_
                              exact HR2.out xb 3 (by decide) (HX2.out (by have := HCK.out; have := HO.out; show xk ≠ overK bk; omega)) _ _ ⟨_, _, rfl, Y.out.bad _ _ _⟩
                          · have e2 : ((xk : Int) == 2) = false := beq_eq_false_iff_ne.2 (by omega)
                            have e4 : ((xk : Int) == 4) = true := beq_iff_eq.2 (by omega)
                            by_cases hov : xk = cl
                            · have o1 : ((xk : Int) == (cl : Int)) = true := beq_iff_eq.2 (by omega)
                              have o2 : ((xk : Int) != (cl : Int)) = false := by rw [bne, o1]; rfl
                              have HO := Lib.hid hov
                              clear hov h6
                              go_wp2_with fail
                              refine (tmark_more s a1 m1 0 g _ HSS.out ha1 HS2.out.kT xk xb xd xn xl xp HNX.out).mono ?_
                              rintro e' w3 ⟨rfl, hT3, hg3⟩
                              have hS3 := HS2.out.grown hg3 hT3
                              have hG3 := HG2.out.only hg3 (fun q h => by injection h with h; have := HS2.out.hr; have := HS2.out.hV; omega)
                              have hk3 := HK2.out.grown hg3 (fun q => by injection q with q; exact hn3 q)
                              clear c4 v0 v1 v2 f2 z0 z1 z2 g0 g1 g2 y0 y1 y2 y3 y4
                              obtain ⟨⟨y0, y1, y2, y3, y4⟩, _⟩ := hk3.five
                              obtain ⟨c4, ⟨v0, v1, v2, f2⟩, ⟨z0, z1, z2⟩, g0, g1, g2⟩ := hS3.cells
                              have X := Lib.hid (And.intro hS3 hG3)
                              clear hS3 hG3 hk3 hT3 hg3 HS2 HG2 HK2
                              go_wp2_with fail
                              refine bodyPost_ret (v := .agg #[.int .u8 bk, .int .i64 0, .slice A0 acc.length c0]) (by simp [results, Tryz.results37, go_sem, z0, z1, z2]) rfl ?_
                              obtain ⟨h1, h2⟩ := X.out.1.bad (.int .u8 bk) (.int .i64 0) (.slice A0 acc.length c0)
                              refine HR1.out (acc.map (·.1)) xd m1 (HX3.out (by have := HCK.out; have := HO.out; omega)) _ _ ⟨A0, c0, by show _ = Ending.returned (.agg #[.int .u8 bk, .int .i64 0, .slice A0 (acc.map (·.1)).length c0]); rw [List.length_map], h1, h2, ?_⟩
                              exact (X.out.2.done.1).fresh_keep (only_setCell (only_setCell (only_setCell (only_refl w3 (some w.heap.size)) (p := ⟨w.heap.size, 0, none⟩) (.inl rfl) _) (p := ⟨w.heap.size, 1, none⟩) (.inl rfl) _) (p := ⟨w.heap.size, 2, none⟩) (.inl rfl) _) (by have := X.out.1.hV; omega) (fun q h => by injection h with h; have := X.out.1.hV; omega)
                            · have o1 : ((xk : Int) == (cl : Int)) = false := beq_eq_false_iff_ne.2 (by omega)
                              have o2 : ((xk : Int) != (cl : Int)) = true := by rw [bne, o1]; rfl
                              have HO := Lib.hid hov
                              clear hov h6
                              go_wp2_with fail
                              refine (tmark_more s a1 m1 0 g _ HSS.out ha1 HS2.out.kT xk xb xd xn xl xp HNX.out).mono ?_
                              rintro e' w3 ⟨rfl, hT3, hg3⟩
                              have hk3 := HK2.out.grown hg3 (fun q => by injection q with q; exact hn3 q)
                              clear c4 v0 v1 v2 f2 z0 z1 z2 g0 g1 g2 y0 y1 y2 y3 y4
                              obtain ⟨⟨y0, y1, y2, y3, y4⟩, _⟩ := hk3.five
                              have X := Lib.hid (HS2.out.grown hg3 hT3)
                              clear hk3 hT3 hg3 HS2 HG2 HK2
                              go_wp2_with fail
                              refine (tfail_first s xd m1 0 xb 3 g _ X.out.kT).mono ?_
                              rintro e' w4 ⟨rfl, hT4, hg4⟩
                              have hS4 := X.out.grown hg4 hT4
                              clear y0 y1 y2 y3 y4
                              obtain ⟨c4, ⟨v0, v1, v2, f2⟩, ⟨z0, z1, z2⟩, g0, g1, g2⟩ := hS4.cells
                              have Y := Lib.hid hS4
                              clear hS4 hT4 hg4 X
                              go_wp2_with fail
                              refine bodyPost_ret (v := .agg #[.int .u8 0, .int .i64 0, .slice none 0 0]) (by simp [results, Tryz.results37, go_sem, z0, z1, z2]) rfl ?_
                              exact HR2.out xb 3 (by decide) (HX2.out (by have := HCK.out; have := HO.out; show xk ≠ overK bk; omega)) _ _ ⟨_, _, rfl, Y.out.bad _ _ _⟩
                          · have e2 : ((xk : Int) == 2) = false := beq_eq_false_iff_ne.2 (by omega)
                            have e4 : ((xk : Int) == 4) = false := beq_eq_false_iff_ne.2 (by omega)
                            have e6 : ((xk : Int) == 6) = true := beq_iff_eq.2 (by omega)
                            by_cases hov : xk = cl
                            · have o1 : ((xk : Int) == (cl : Int)) = true := beq_iff_eq.2 (by omega)
                              have o2 : ((xk : Int) != (cl : Int)) = false := by rw [bne, o1]; rfl
                              have HO := Lib.hid hov
                              clear hov h6
                              go_wp2_with fail
                              refine (tmark_more s a1 m1 0 g _ HSS.out ha1 HS2.out.kT xk xb xd xn xl xp HNX.out).mono ?_
                              rintro e' w3 ⟨rfl, hT3, hg3⟩
                              have hS3 := HS2.out.grown hg3 hT3
                              have hG3 := HG2.out.only hg3 (fun q h => by injection h with h; have := HS2.out.hr; have := HS2.out.hV; omega)
                              have hk3 := HK2.out.grown hg3 (fun q => by injection q with q; exact hn3 q)
                              clear c4 v0 v1 v2 f2 z0 z1 z2 g0 g1 g2 y0 y1 y2 y3 y4
                              obtain ⟨⟨y0, y1, y2, y3, y4⟩, _⟩ := hk3.five
                              obtain ⟨c4, ⟨v0, v1, v2, f2⟩, ⟨z0, z1, z2⟩, g0, g1, g2⟩ := hS3.cells
                              have X := Lib.hid (And.intro hS3 hG3)
                              clear hS3 hG3 hk3 hT3 hg3 HS2 HG2 HK2
                              go_wp2_with fail
                              refine bodyPost_ret (v := .agg #[.int .u8 bk, .int .i64 0, .slice A0 acc.length c0]) (by simp [results, Tryz.results37, go_sem, z0, z1, z2]) rfl ?_
                              obtain ⟨h1, h2⟩ := X.out.1.bad (.int .u8 bk) (.int .i64 0) (.slice A0 acc.length c0)
                              refine HR1.out (acc.map (·.1)) xd m1 (HX3.out (by have := HCK.out; have := HO.out; omega)) _ _ ⟨A0, c0, by show _ = Ending.returned (.agg #[.int .u8 bk, .int .i64 0, .slice A0 (acc.map (·.1)).length c0]); rw [List.length_map], h1, h2, ?_⟩
                              exact (X.out.2.done.1).fresh_keep (only_setCell (only_setCell (only_setCell (only_refl w3 (some w.heap.size)) (p := ⟨w.heap.size, 0, none⟩) (.inl rfl) _) (p := ⟨w.heap.size, 1, none⟩) (.inl rfl) _) (p := ⟨w.heap.size, 2, none⟩) (.inl rfl) _) (by have := X.out.1.hV; omega) (fun q h => by injection h with h; have := X.out.1.hV; omega)
                            · have o1 : ((xk : Int) == (cl : Int)) = false := beq_eq_false_iff_ne.2 (by omega)
                              have o2 : ((xk : Int) != (cl : Int)) = true := by rw [bne, o1]; rfl
                              have HO := Lib.hid hov
                              clear hov h6
                              go_wp2_with fail
                              refine (tmark_more s a1 m1 0 g _ HSS.out ha1 HS2.out.kT xk xb xd xn xl xp HNX.out).mono ?_
                              rintro e' w3 ⟨rfl, hT3, hg3⟩
                              have hk3 := HK2.out.grown hg3 (fun q => by injection q with q; exact hn3 q)
                              clear c4 v0 v1 v2 f2 z0 z1 z2 g0 g1 g2 y0 y1 y2 y3 y4
                              obtain ⟨⟨y0, y1, y2, y3, y4⟩, _⟩ := hk3.five
                              have X := Lib.hid (HS2.out.grown hg3 hT3)
                              clear hk3 hT3 hg3 HS2 HG2 HK2
                              go_wp2_with fail
                              refine (tfail_first s xd m1 0 xb 3 g _ X.out.kT).mono ?_
                              rintro e' w4 ⟨rfl, hT4, hg4⟩
                              have hS4 := X.out.grown hg4 hT4
                              clear y0 y1 y2 y3 y4
                              obtain ⟨c4, ⟨v0, v1, v2, f2⟩, ⟨z0, z1, z2⟩, g0, g1, g2⟩ := hS4.cells
                              have Y := Lib.hid hS4
                              clear hS4 hT4 hg4 X
                              go_wp2_with fail
                              refine bodyPost_ret (v := .agg #[.int .u8 0, .int .i64 0, .slice none 0 0]) (by simp [results, Tryz.results37, go_sem, z0, z1, z2]) rfl ?_
                              exact HR2.out xb 3 (by decide) (HX2.out (by have := HCK.out; have := HO.out; show xk ≠ overK bk; omega)) _ _ ⟨_, _, rfl, Y.out.bad _ _ _⟩
                        · have e2 : ((xk : Int) == 2) = false := beq_eq_false_iff_ne.2 (by unfold shutsK at hsh; omega)
                          have e4 : ((xk : Int) == 4) = false := beq_eq_false_iff_ne.2 (by unfold shutsK at hsh; omega)
                          have e6 : ((xk : Int) == 6) = false := beq_eq_false_iff_ne.2 (by unfold shutsK at hsh; omega)
                          have hcall := fun W hW => HTV.out f (by omega) s a1 m1 (deep + 1) (acc.length + 1) g W HSS.out ha1 hm1 (by omega) (by omega) (by omega) (by omega) hW
                          have hp4 := pitems_e4 (f := f) (l := s.data.toList) (a := a1) (m := m1) (k := bk) (deep := deep) (acc := acc.map (·.1)) HNX.out rfl hsh
                          rw [HP1.out, List.length_map] at hp4
                          have hends := (read_ends f).1 s.data.toList a1 m1 (deep + 1) (acc.length + 1)
                          have hmay := (read_may f).1 s.data.toList a1 m1 (deep + 1) (acc.length + 1)
                          have hitem := fun v a' m' => pval_item (f := f) (l := s.data.toList) (a := a1) (m := m1) (deep := deep + 1) (item := acc.length + 1) (v := v) (a' := a') (m' := m')
                          have hwhy := (read_why f).1 s.data.toList a1 m1 (deep + 1) (acc.length + 1)
                          generalize hz : pval f s.data.toList a1 m1 (deep + 1) (acc.length + 1) = z at *
                          have HCL := Lib.hid hcall; have HP4 := Lib.hid hp4; have HEN := Lib.hid hends; have HMA := Lib.hid hmay; have HIT := Lib.hid hitem; have HWH := Lib.hid hwhy
                          have hiw : IntKind.i64.wrap ((acc.length : Int) + 1) = (acc.length : Int) + 1 := IntWalk.i64_in _ ⟨by omega, by omega⟩
                          have hdw : IntKind.i64.wrap ((deep : Int) + 1) = (deep : Int) + 1 := IntWalk.i64_in _ ⟨by omega, by omega⟩
                          clear hcall hp4 hends hmay hitem hwhy
                          go_wp2_with fail
                          cases hz2 : z with
                          | ok v a' m' =>
                            have hz := hz2
                            have HC : Hid (∀ W, TxB W g s a1 m1 0 0 → Calls Tryz.prog 37 #[.pointer (some ⟨g, 0, none⟩), .int .i64 ((deep : Int) + 1), .int .i64 ((acc.length : Int) + 1)] W fun en w' => ∃ A c, en = .returned (.agg #[.int .u8 v.k, .int .i64 v.n, .slice A v.l.length c]) ∧ TxB w' g s a' m' 0 0 ∧ W.grownBy w' (some g) ∧ Vsp w' (Fr W.heap.size w') A v.l) := fun W hW => by
                              have h := HCL.out W hW
                              rw [hz] at h
                              exact h
                            have HH := Lib.hid (And.intro HS2.out HG2.out)
                            clear HS2 HG2
                            obtain ⟨i0, hi, ty0, ty1, ty2⟩ := info_parts (P := Tryz.prog) (e := 24) (z := .agg #[.int .u8 0, .int .i64 0, .slice none 0 0]) (size := 3) (bytes := 40) (by kernel_rfl)
                            have HU : Tryz.prog.underlying 22 = some (.slice 24) := by kernel_rfl
                            go_region_law (first
                              | (refine step_append_any _ rfl _ _ 22 rfl (w1.heap.size + 1 + 1) 24 i0 (.agg #[.int .u8 0, .int .i64 0, .slice none 0 0]) 3 40 HU hi ty0 ty1 ty2 rfl (by decide) _ _ _ rfl H3.out.2.1.own (w3.heap.size + 1) (some ⟨w3.heap.size, 0, none⟩) 1 1 [.int .u8 v.k, .int .i64 v.n, .slice A v.l.length c] rfl H3.out.2.2.1 (fun u hu => by simp at hu; rcases hu with rfl | rfl | rfl <;> rfl) (by unfold maxLen; omega) (by omega) (by have := H3.out.1.kV.lt; omega) ?_
                                 intro v7 w7 hown7 hgrow7 hv7
                                 have hG7 := Grow.snoc (t := (v, A, c)) H3.out.2.1 H3.out.2.2.2 hown7 hgrow7 hv7
                                 obtain ⟨A7, c7, hv9⟩ := hG7.slice
                                 rw [List.length_append, List.length_singleton] at hv9
                                 subst hv9
                                 have hn7 : ∀ r, (Value.slice A0 acc.length c0).ownBlock = some r → w1.heap.size + 1 + 1 ≤ r := fun r q => (H3.out.2.1.own.lt r q).1
                                 have hS7 := H3.out.1.row hgrow7 (fun r q => by have := hn7 r q; omega)
                                 clear c4 v0 v1 v2 f2 z0 z1 z2 g0 g1 g2 cc4 vv0 vv1 vv2 ff2
                                 obtain ⟨c4, ⟨v0, v1, v2, f2⟩, ⟨z0, z1, z2⟩, g0, g1, g2⟩ := hS7.cells
                                 have X := Lib.hid (And.intro hS7 hG7)
                                 clear hS7 hG7 hn7 hown7 hgrow7 hv7 H3)
                              | (go_simp
                                 go_at_call 37
                                 refine (HC.out _ HH.out.1.drew.kT).mono ?_
                                 rintro e' w3 ⟨A, c, rfl, hT3, hg3, hV3⟩
                                 have hS30 := HH.out.1.drew.grown hg3 hT3
                                 have hS3 := hS30.alloc (.cells #[.int .u8 v.k, .int .i64 v.n, .slice A v.l.length c] 24)
                                 have hD := (Below.refl (w2.alloc (.cells #[.int .u8 xk, .int .i64 xb, .int .i64 xd, .int .i64 xn, .string (bs xl)] 67)).heap.size (w2.alloc (.cells #[.int .u8 xk, .int .i64 xb, .int .i64 xd, .int .i64 xn, .string (bs xl)] 67))).drew
                                 have hG3 := ((HH.out.2.below hD).only hg3 (fun q h => by injection h with h; have := HH.out.1.hr; have := HH.out.1.hV; omega)).below ((Below.refl w3.heap.size w3).alloc (Nat.le_refl _) (.cells #[.int .u8 v.k, .int .i64 v.n, .slice A v.l.length c] 24))
                                 clear c4 v0 v1 v2 f2 z0 z1 z2 g0 g1 g2 y0 y1 y2 y3 y4
                                 obtain ⟨c4, ⟨v0, v1, v2, f2⟩, ⟨z0, z1, z2⟩, g0, g1, g2⟩ := hS30.cells
                                 obtain ⟨cc4, ⟨vv0, vv1, vv2, ff2⟩, _, _⟩ := hS3.cells
                                 have hRd := reads_three w3 (.int .u8 v.k) (.int .i64 v.n) (.slice A v.l.length c) 24
                                 have h0 : w1.heap.size + 1 + 1 ≤ w2.heap.size := HGS.out
                                 have hz9 : (w2.alloc (.cells #[.int .u8 xk, .int .i64 xb, .int .i64 xd, .int .i64 xn, .string (bs xl)] 67)).drew.heap.size = w2.heap.size + 1 := World.size_alloc _ _
                                 have hs3 := hg3.size
                                 rw [hz9] at hV3 hs3
                                 have hV4 := hV3.keep (w' := w3.alloc (.cells #[.int .u8 v.k, .int .i64 v.n, .slice A v.l.length c] 24)) (S' := fun q => Fr (w1.heap.size + 1 + 1) (w3.alloc (.cells #[.int .u8 v.k, .int .i64 v.n, .slice A v.l.length c] 24)) q ∧ (Value.slice A0 acc.length c0).ownBlock ≠ some q) (fun q hq => ⟨⟨by have := hq.1; omega, by have := hq.2; simp; omega⟩, fun h => by have hq5 := (HH.out.2.own.lt q h).2; have := hq.1; simp at hq5; omega⟩) (fun q hq => ((Below.refl w3.heap.size w3).alloc (Nat.le_refl _) (.cells #[.int .u8 v.k, .int .i64 v.n, .slice A v.l.length c] 24)).block q hq.2)
                                 have H3 := Lib.hid (And.intro hS3 (And.intro hG3 (And.intro hRd hV4)))
                                 clear hS3 hS30 hG3 hRd hT3 hg3 hV3 hV4 hD))
                            all_goals (
                              go_wp2_with fail
                              obtain ⟨he1, he2⟩ := HEN.out v a' m' (by simpa using ha1) hz2
                              have he3 : a' ≤ s.size := by simpa using he2
                              have hm4 := (HMA.out v a' m' (by simpa using ha1) hz2).2.2.2.1
                              have hi4 := HIT.out v a' m' hz2
                              have hp := HP4.out
                              rw [hz2] at hp
                              go_roundw
                              case rel => exact .inl ⟨a', m', f, acc ++ [(v, A, c)], A7, c7, he3, hm4, by rw [List.length_append, List.length_singleton]; omega, by omega, by omega, by rw [List.length_append, List.length_singleton]; exact X.out.1.items _, by rw [List.length_append, List.length_singleton]; exact X.out.2.only (only_setCell (only_refl w7 (some (w1.heap.size + 1))) (p := ⟨w1.heap.size + 1, 2, none⟩) (.inl rfl) _) (fun q h => by injection h with h; omega), by rw [List.map_append]; exact hp.symm⟩
                              case measure => rw [tLeft_ok (X.out.1.items _).kT, HL.out]; omega)
                          | bad pp ee =>
                            have hz := hz2
                            have HC : Hid (∀ W, TxB W g s a1 m1 0 0 → Calls Tryz.prog 37 #[.pointer (some ⟨g, 0, none⟩), .int .i64 ((deep : Int) + 1), .int .i64 ((acc.length : Int) + 1)] W fun en w' => ∃ (aa mm : Int), en = .returned (.agg #[.int .u8 0, .int .i64 0, .slice (none : Option Addr) 0 0]) ∧ TxB w' g s aa mm pp ee ∧ W.grownBy w' (some g) ∧ Vsp w' (Fr W.heap.size w') (none : Option Addr) ([] : List V)) := fun W hW => by
                              have h := HCL.out W hW
                              rw [hz] at h
                              refine h.mono fun en w' ⟨aa, mm, h1, h2, h3⟩ => ⟨aa, mm, h1, h2, h3, .emp _⟩
                            have HH := Lib.hid (And.intro HS2.out HG2.out)
                            clear HS2 HG2
                            obtain ⟨i0, hi, ty0, ty1, ty2⟩ := info_parts (P := Tryz.prog) (e := 24) (z := .agg #[.int .u8 0, .int .i64 0, .slice none 0 0]) (size := 3) (bytes := 40) (by kernel_rfl)
                            have HU : Tryz.prog.underlying 22 = some (.slice 24) := by kernel_rfl
                            go_region_law (first
                              | (refine step_append_any _ rfl _ _ 22 rfl (w1.heap.size + 1 + 1) 24 i0 (.agg #[.int .u8 0, .int .i64 0, .slice none 0 0]) 3 40 HU hi ty0 ty1 ty2 rfl (by decide) _ _ _ rfl H3.out.2.1.own (w3.heap.size + 1) (some ⟨w3.heap.size, 0, none⟩) 1 1 [.int .u8 0, .int .i64 0, .slice (none : Option Addr) 0 0] rfl H3.out.2.2.1 (fun u hu => by simp at hu; rcases hu with rfl | rfl | rfl <;> rfl) (by unfold maxLen; omega) (by omega) (by have := H3.out.1.kV.lt; omega) ?_
                                 intro v7 w7 hown7 hgrow7 hv7
                                 have hG7 := Grow.snoc (t := ((.mk 0 0 [] : V), (none : Option Addr), 0)) H3.out.2.1 H3.out.2.2.2 hown7 hgrow7 hv7
                                 obtain ⟨A7, c7, hv9⟩ := hG7.slice
                                 rw [List.length_append, List.length_singleton] at hv9
                                 subst hv9
                                 have hn7 : ∀ r, (Value.slice A0 acc.length c0).ownBlock = some r → w1.heap.size + 1 + 1 ≤ r := fun r q => (H3.out.2.1.own.lt r q).1
                                 have hS7 := H3.out.1.row hgrow7 (fun r q => by have := hn7 r q; omega)
                                 clear c4 v0 v1 v2 f2 z0 z1 z2 g0 g1 g2 cc4 vv0 vv1 vv2 ff2
                                 obtain ⟨c4, ⟨v0, v1, v2, f2⟩, ⟨z0, z1, z2⟩, g0, g1, g2⟩ := hS7.cells
                                 have X := Lib.hid (And.intro hS7 hG7)
                                 clear hS7 hG7 hn7 hown7 hgrow7 hv7 H3)
                              | (go_simp
                                 go_at_call 37
                                 refine (HC.out _ HH.out.1.drew.kT).mono ?_
                                 rintro e' w3 ⟨aa, mm, rfl, hT3, hg3, hV3⟩
                                 have hS30 := HH.out.1.drew.grown hg3 hT3
                                 have hS3 := hS30.alloc (.cells #[.int .u8 0, .int .i64 0, .slice (none : Option Addr) 0 0] 24)
                                 have hD := (Below.refl (w2.alloc (.cells #[.int .u8 xk, .int .i64 xb, .int .i64 xd, .int .i64 xn, .string (bs xl)] 67)).heap.size (w2.alloc (.cells #[.int .u8 xk, .int .i64 xb, .int .i64 xd, .int .i64 xn, .string (bs xl)] 67))).drew
                                 have hG3 := ((HH.out.2.below hD).only hg3 (fun q h => by injection h with h; have := HH.out.1.hr; have := HH.out.1.hV; omega)).below ((Below.refl w3.heap.size w3).alloc (Nat.le_refl _) (.cells #[.int .u8 0, .int .i64 0, .slice (none : Option Addr) 0 0] 24))
                                 clear c4 v0 v1 v2 f2 z0 z1 z2 g0 g1 g2 y0 y1 y2 y3 y4
                                 obtain ⟨c4, ⟨v0, v1, v2, f2⟩, ⟨z0, z1, z2⟩, g0, g1, g2⟩ := hS30.cells
                                 obtain ⟨cc4, ⟨vv0, vv1, vv2, ff2⟩, _, _⟩ := hS3.cells
                                 have hRd := reads_three w3 (.int .u8 0) (.int .i64 0) (.slice (none : Option Addr) 0 0) 24
                                 have h0 : w1.heap.size + 1 + 1 ≤ w2.heap.size := HGS.out
                                 have hz9 : (w2.alloc (.cells #[.int .u8 xk, .int .i64 xb, .int .i64 xd, .int .i64 xn, .string (bs xl)] 67)).drew.heap.size = w2.heap.size + 1 := World.size_alloc _ _
                                 have hs3 := hg3.size
                                 rw [hz9] at hV3 hs3
                                 have hV4 := hV3.keep (w' := w3.alloc (.cells #[.int .u8 0, .int .i64 0, .slice (none : Option Addr) 0 0] 24)) (S' := fun q => Fr (w1.heap.size + 1 + 1) (w3.alloc (.cells #[.int .u8 0, .int .i64 0, .slice (none : Option Addr) 0 0] 24)) q ∧ (Value.slice A0 acc.length c0).ownBlock ≠ some q) (fun q hq => ⟨⟨by have := hq.1; omega, by have := hq.2; simp; omega⟩, fun h => by have hq5 := (HH.out.2.own.lt q h).2; have := hq.1; simp at hq5; omega⟩) (fun q hq => ((Below.refl w3.heap.size w3).alloc (Nat.le_refl _) (.cells #[.int .u8 0, .int .i64 0, .slice (none : Option Addr) 0 0] 24)).block q hq.2)
                                 have H3 := Lib.hid (And.intro hS3 (And.intro hG3 (And.intro hRd hV4)))
                                 clear hS3 hS30 hG3 hRd hT3 hg3 hV3 hV4 hD))
                            all_goals (
                              go_wp2_with fail
                              have hee := HWH.out pp ee (by simpa using ha1) (by simp; omega) hz2
                              have hp := HP4.out
                              rw [hz2] at hp
                              go_roundw
                              case rel => exact .inr ⟨aa, mm, pp, ee, _, hee, hp, X.out.1.items _⟩
                              case measure => rw [tLeft_bad (by omega) (X.out.1.items _).kT, HL.out]; omega)
                      · have q1 : ((xe : Int) == 0) = false := beq_eq_false_iff_ne.2 (by omega)
                        have q2 : ((xe : Int) != 0) = true := bne_iff_ne.2 (by omega)
                        go_wp2_with fail
                        refine (tmark_bad false s a1 m1 0 g _ HSS.out ha1 HS1.out.kT xk xb xd xn xl xp xe hxe HNX.out).mono ?_
                        rintro e' w2 ⟨rfl, hT2, hg2⟩
                        have hS2 := (HS1.out.grown hg2 hT2).alloc (.cells #[.int .u8 xk, .int .i64 xb, .int .i64 xd, .int .i64 xn, .string (bs xl)] 67)
                        have hk2 := Blk.new w2 67 #[.int .u8 xk, .int .i64 xb, .int .i64 xd, .int .i64 xn, .string (bs xl)]
                        obtain ⟨⟨y0, y1, y2, y3, y4⟩, _⟩ := hk2.five
                        have hl := tLeft_ok (n := s.size) HS1.out.kT
                        have hr := HP1.out
                        rw [pitems_e1 HNX.out hxe] at hr
                        clear c4 v0 v1 v2 f2 z0 z1 z2 g0 g1 g2
                        obtain ⟨c4, _⟩ := hS2.cells
                        have HS2 := Lib.hid hS2; have HL := Lib.hid hl; have HR := Lib.hid hr
                        clear hS2 hk2 hT2 hg2 HS1 HG1 hl hr
                        go_wp2_with fail
                        go_roundw
                        case rel => exact .inr ⟨a1, m1, xp, xe, _, hxe, HR.out.symm, HS2.out⟩
                        case measure => rw [tLeft_bad (by omega) HS2.out.kT, HL.out]; omega
                    · clear hrel
                      have q1 : ((e2 : Int) == 0) = false := beq_eq_false_iff_ne.2 (by omega)
                      have q2 : ((e2 : Int) != 0) = true := bne_iff_ne.2 (by omega)
                      obtain ⟨c4, ⟨v0, v1, v2, f2⟩, ⟨z0, z1, z2⟩, g0, g1, g2⟩ := hS2.cells
                      have HS2 := Lib.hid hS2
                      clear hS2
                      go_wp2_with fail
                      refine bodyPost_ret (v := .agg #[.int .u8 0, .int .i64 0, .slice none 0 0]) (by simp [results, Tryz.results37, go_sem, z0, z1, z2]) rfl ?_
                      exact HR2.out p2 e2 he2 hR2 _ _ ⟨_, _, rfl, HS2.out.bad _ _ _⟩
              · have he0 := he1 he
                subst he0
                clear he1 he2
                have q1 : ((E0 : Int) == 0) = false := beq_eq_false_iff_ne.2 (by omega)
                have q2 : ((E0 : Int) != 0) = true := bne_iff_ne.2 (by omega)
                go_wp2_with fail
                go_loopw [10] (fun x wr => Hid (Sv w wr g w1.heap.size (w1.heap.size + 1) s kk b d n l bk bn ((m : Int) + 1) E0)) (fun _ _ => 0)
                case atStart => exact HS.out
                case round =>
                  have HS := hrel
                  clear hrel
                  obtain ⟨⟨c2, c4, f2⟩, y1, ⟨v0, v1, v2⟩, ⟨z0, z1, z2⟩, g0, g1, g2⟩ := HS.out.cells
                  go_wp2_with fail
                  all_goals (
                    refine bodyPost_ret (v := .agg #[.int .u8 0, .int .i64 0, .slice none 0 0]) (by simp [results, Tryz.results37, go_sem, z0, z1, z2]) rfl ?_
                    exact HBAD.out (by omega) _ _ ⟨_, _, rfl, HS.out.bad (by omega) _ _ _⟩)
            clear hK6
            have HS := Lib.hid HS0
            obtain ⟨⟨⟨c2, c4, f2⟩, y1, ⟨v0, v1, v2⟩, ⟨z0, z1, z2⟩, g0, g1, g2⟩, ⟨⟨d2, d4, h2⟩, x1, ⟨u0, u1, u2⟩, ⟨t0, t1, t2⟩, k0, k1, k2⟩⟩ := HS0.both
            clear HS0
            by_cases hk1 : bk = 1
            · have j1 : ((bk : Int) == 1) = true := beq_iff_eq.2 (by omega)
              by_cases r1 : bn < -1099511627776
              · by_cases he : e = 0
                · subst he
                  have hp2 := Lib.hid (he2 rfl)
                  clear he1 he2
                  go_wp2_with fail
                  refine (sv_fail0 (by decide) HS.out).mono ?_
                  clear c2 c4 f2 y1 v0 v1 v2 z0 z1 z2 g0 g1 g2 d2 d4 h2 x1 u0 u1 u2 t0 t1 t2 k0 k1 k2 HS
                  rintro e' w9 ⟨rfl, _, HS⟩
                  go_wp2_with fail
                  exact HK6.out _ _ _ (fr9_of _ _ _ _ _ _ _ rfl rfl rfl rfl rfl rfl rfl rfl) HS.out (fun _ => by rw [HE.out.2.2.2.2.1 hp2.out.1 hp2.out.2.1 hp2.out.2.2.1 hp2.out.2.2.2 hk1 (by omega)]; rfl) (fun h => absurd h (by decide))
                · have hp1 := Lib.hid (he1 he)
                  clear he1 he2
                  go_wp2_with fail
                  refine (sv_failn he HS.out).mono ?_
                  clear c2 c4 f2 y1 v0 v1 v2 z0 z1 z2 g0 g1 g2 d2 d4 h2 x1 u0 u1 u2 t0 t1 t2 k0 k1 k2 HS
                  rintro e' w9 ⟨rfl, _, HS⟩
                  go_wp2_with fail
                  exact HK6.out _ _ _ (fr9_of _ _ _ _ _ _ _ rfl rfl rfl rfl rfl rfl rfl rfl) HS.out (fun _ => hp1.out) (fun h => absurd h he)
              · by_cases r2 : 1099511627776 < bn
                · by_cases he : e = 0
                  · subst he
                    have hp2 := Lib.hid (he2 rfl)
                    clear he1 he2
                    go_wp2_with fail
                    refine (sv_fail0 (by decide) HS.out).mono ?_
                    clear c2 c4 f2 y1 v0 v1 v2 z0 z1 z2 g0 g1 g2 d2 d4 h2 x1 u0 u1 u2 t0 t1 t2 k0 k1 k2 HS
                    rintro e' w9 ⟨rfl, _, HS⟩
                    go_wp2_with fail
                    exact HK6.out _ _ _ (fr9_of _ _ _ _ _ _ _ rfl rfl rfl rfl rfl rfl rfl rfl) HS.out (fun _ => by rw [HE.out.2.2.2.2.1 hp2.out.1 hp2.out.2.1 hp2.out.2.2.1 hp2.out.2.2.2 hk1 (by omega)]; rfl) (fun h => absurd h (by decide))
                  · have hp1 := Lib.hid (he1 he)
                    clear he1 he2
                    go_wp2_with fail
                    refine (sv_failn he HS.out).mono ?_
                    clear c2 c4 f2 y1 v0 v1 v2 z0 z1 z2 g0 g1 g2 d2 d4 h2 x1 u0 u1 u2 t0 t1 t2 k0 k1 k2 HS
                    rintro e' w9 ⟨rfl, _, HS⟩
                    go_wp2_with fail
                    exact HK6.out _ _ _ (fr9_of _ _ _ _ _ _ _ rfl rfl rfl rfl rfl rfl rfl rfl) HS.out (fun _ => hp1.out) (fun h => absurd h he)
                · go_wp2_with fail
                  exact HK6.out _ _ _ (fr9_of _ _ _ _ _ _ _ rfl rfl rfl rfl rfl rfl rfl rfl) HS.out he1 (fun h => ⟨(he2 h).1, (he2 h).2.1, (he2 h).2.2.1, (he2 h).2.2.2, fun _ => by omega⟩)
            · have j1 : ((bk : Int) == 1) = false := beq_eq_false_iff_ne.2 (by omega)
              go_wp2_with fail
              exact HK6.out _ _ _ (fr9_of _ _ _ _ _ _ _ rfl rfl rfl rfl rfl rfl rfl rfl) HS.out he1 (fun h => ⟨(he2 h).1, (he2 h).2.1, (he2 h).2.2.1, (he2 h).2.2.2, fun q => absurd q hk1⟩)
          clear hK5
          have HS := Lib.hid HS0
          obtain ⟨⟨⟨c2, c4, f2⟩, y1, ⟨v0, v1, v2⟩, ⟨z0, z1, z2⟩, g0, g1, g2⟩, ⟨⟨d2, d4, h2⟩, x1, ⟨u0, u1, u2⟩, ⟨t0, t1, t2⟩, k0, k1, k2⟩⟩ := HS0.both
          clear HS0
          by_cases hi : (4096 : Int) < (m : Int) + 1
          · by_cases he : e = 0
            · subst he
              have hp2 := Lib.hid (he2 rfl)
              clear he1 he2
              go_wp2_with fail
              refine (sv_fail0 (by decide) HS.out).mono ?_
              clear c2 c4 f2 y1 v0 v1 v2 z0 z1 z2 g0 g1 g2 d2 d4 h2 x1 u0 u1 u2 t0 t1 t2 k0 k1 k2 HS
              rintro e' w9 ⟨rfl, _, HS⟩
              go_wp2_with fail
              exact HK5.out _ _ _ (fr9_of _ _ _ _ _ _ _ rfl rfl rfl rfl rfl rfl rfl rfl) HS.out (fun _ => by rw [HE.out.2.2.2.1 hp2.out.1 hp2.out.2.1 hp2.out.2.2 (by omega)]; rfl) (fun h => absurd h (by decide))
            · have hp1 := Lib.hid (he1 he)
              clear he1 he2
              go_wp2_with fail
              refine (sv_failn he HS.out).mono ?_
              clear c2 c4 f2 y1 v0 v1 v2 z0 z1 z2 g0 g1 g2 d2 d4 h2 x1 u0 u1 u2 t0 t1 t2 k0 k1 k2 HS
              rintro e' w9 ⟨rfl, _, HS⟩
              go_wp2_with fail
              exact HK5.out _ _ _ (fr9_of _ _ _ _ _ _ _ rfl rfl rfl rfl rfl rfl rfl rfl) HS.out (fun _ => hp1.out) (fun h => absurd h he)
          · go_wp2_with fail
            exact HK5.out _ _ _ (fr9_of _ _ _ _ _ _ _ rfl rfl rfl rfl rfl rfl rfl rfl) HS.out he1 (fun h => by have := he2 h; omega)
        clear hK4
        have HS := Lib.hid HS0
        obtain ⟨⟨⟨c2, c4, f2⟩, y1, ⟨v0, v1, v2⟩, ⟨z0, z1, z2⟩, g0, g1, g2⟩, ⟨⟨d2, d4, h2⟩, x1, ⟨u0, u1, u2⟩, ⟨t0, t1, t2⟩, k0, k1, k2⟩⟩ := HS0.both
        clear HS0
        go_wp2_with fail
        exact HK4.out _ _ _ (fr9_of _ _ _ _ _ _ _ rfl rfl rfl rfl rfl rfl rfl rfl) (HS.out.many _) he1 he2
      clear hK3
      have HS := Lib.hid HS0
      obtain ⟨⟨⟨c2, c4, f2⟩, y1, ⟨v0, v1, v2⟩, ⟨z0, z1, z2⟩, g0, g1, g2⟩, ⟨⟨d2, d4, h2⟩, x1, ⟨u0, u1, u2⟩, ⟨t0, t1, t2⟩, k0, k1, k2⟩⟩ := HS0.both
      clear HS0
      by_cases hi : (128 : Int) < (deep : Int)
      · by_cases he : e = 0
        · subst he
          have hp2 := Lib.hid (he2 rfl)
          clear he1 he2
          go_wp2_with fail
          refine (sv_fail0 (by decide) HS.out).mono ?_
          clear c2 c4 f2 y1 v0 v1 v2 z0 z1 z2 g0 g1 g2 d2 d4 h2 x1 u0 u1 u2 t0 t1 t2 k0 k1 k2 HS
          rintro e' w9 ⟨rfl, _, HS⟩
          go_wp2_with fail
          exact HK3.out _ _ _ (fr9_of _ _ _ _ _ _ _ rfl rfl rfl rfl rfl rfl rfl rfl) HS.out (fun _ => by rw [HE.out.2.2.1 hp2.out.1 hp2.out.2 (by omega)]; rfl) (fun h => absurd h (by decide))
        · have hp1 := Lib.hid (he1 he)
          clear he1 he2
          go_wp2_with fail
          refine (sv_failn he HS.out).mono ?_
          clear c2 c4 f2 y1 v0 v1 v2 z0 z1 z2 g0 g1 g2 d2 d4 h2 x1 u0 u1 u2 t0 t1 t2 k0 k1 k2 HS
          rintro e' w9 ⟨rfl, _, HS⟩
          go_wp2_with fail
          exact HK3.out _ _ _ (fr9_of _ _ _ _ _ _ _ rfl rfl rfl rfl rfl rfl rfl rfl) HS.out (fun _ => hp1.out) (fun h => absurd h he)
      · go_wp2_with fail
        exact HK3.out _ _ _ (fr9_of _ _ _ _ _ _ _ rfl rfl rfl rfl rfl rfl rfl rfl) HS.out he1 (fun h => by have := he2 h; omega)
    clear hK2
    have HS := Lib.hid HS0
    obtain ⟨⟨⟨c2, c4, f2⟩, y1, ⟨v0, v1, v2⟩, ⟨z0, z1, z2⟩, g0, g1, g2⟩, ⟨⟨d2, d4, h2⟩, x1, ⟨u0, u1, u2⟩, ⟨t0, t1, t2⟩, k0, k1, k2⟩⟩ := HS0.both
    clear HS0
    by_cases hi : (64 : Int) < (item : Int)
    · by_cases he : e = 0
      · subst he
        have hp2 := Lib.hid (he2 rfl)
        clear he1 he2
        go_wp2_with fail
        refine (sv_fail0 (by decide) HS.out).mono ?_
        clear c2 c4 f2 y1 v0 v1 v2 z0 z1 z2 g0 g1 g2 d2 d4 h2 x1 u0 u1 u2 t0 t1 t2 k0 k1 k2 HS
        rintro e' w9 ⟨rfl, _, HS⟩
        go_wp2_with fail
        exact HK2.out _ _ _ (fr9_of _ _ _ _ _ _ _ rfl rfl rfl rfl rfl rfl rfl rfl) HS.out (fun _ => by rw [HE.out.2.1 hp2.out (by omega)]; rfl) (fun h => absurd h (by decide))
      · have hp1 := Lib.hid (he1 he)
        clear he1 he2
        go_wp2_with fail
        refine (sv_failn he HS.out).mono ?_
        clear c2 c4 f2 y1 v0 v1 v2 z0 z1 z2 g0 g1 g2 d2 d4 h2 x1 u0 u1 u2 t0 t1 t2 k0 k1 k2 HS
        rintro e' w9 ⟨rfl, _, HS⟩
        go_wp2_with fail
        exact HK2.out _ _ _ (fr9_of _ _ _ _ _ _ _ rfl rfl rfl rfl rfl rfl rfl rfl) HS.out (fun _ => hp1.out) (fun h => absurd h he)
    · go_wp2_with fail
      exact HK2.out _ _ _ (fr9_of _ _ _ _ _ _ _ rfl rfl rfl rfl rfl rfl rfl rfl) HS.out he1 (fun h => by have := he2 h; omega)
  clear hK1
  refine Lib.hid ?_
  rcases HKI.out with ⟨rfl, rfl, rfl, rfl, rfl⟩ | ⟨rfl, rfl, rfl, rfl, rfl⟩ | ⟨rfl, hw1, rfl, rfl, rfl, rfl⟩ | ⟨rfl, hw1, hw2, rfl, rfl, rfl, rfl⟩ | ⟨rfl, rfl, rfl, rfl, rfl⟩ | ⟨rfl, rfl, rfl, rfl, rfl⟩ | ⟨rfl, hw1, hw2, rfl, rfl, rfl, rfl⟩ | ⟨⟨h1, h2, h3, h4, h5⟩, rfl, rfl, rfl, rfl⟩
  · obtain ⟨⟨⟨c2, c4, f2⟩, y1, ⟨v0, v1, v2⟩, ⟨z0, z1, z2⟩, g0, g1, g2⟩, ⟨⟨d2, d4, h2⟩, x1, ⟨u0, u1, u2⟩, ⟨t0, t1, t2⟩, k0, k1, k2⟩⟩ := HS.out.both
    go_wp2_with fail
    refine (sv_fail0 (er := 4) (by decide) HS.out).mono ?_
    clear c2 c4 f2 y1 v0 v1 v2 z0 z1 z2 g0 g1 g2 d2 d4 h2 x1 u0 u1 u2 t0 t1 t2 k0 k1 k2 HS
    rintro e' w9 ⟨rfl, _, HS⟩
    go_wp2_with fail
    exact HK1.out _ _ _ (fr9_of _ _ _ _ _ _ _ rfl rfl rfl rfl rfl rfl rfl rfl) HS.out (fun _ => by rw [HE.out.1 (by decide)]; rfl) (fun h => absurd h (by decide))
  · obtain ⟨⟨⟨c2, c4, f2⟩, y1, ⟨v0, v1, v2⟩, ⟨z0, z1, z2⟩, g0, g1, g2⟩, ⟨⟨d2, d4, h2⟩, x1, ⟨u0, u1, u2⟩, ⟨t0, t1, t2⟩, k0, k1, k2⟩⟩ := HS.out.both
    go_wp2_with fail
    exact HK1.out _ _ _ (fr9_of _ _ _ _ _ _ _ rfl rfl rfl rfl rfl rfl rfl rfl) HS.out (by simp) (by simp)
  · obtain ⟨⟨⟨c2, c4, f2⟩, y1, ⟨v0, v1, v2⟩, ⟨z0, z1, z2⟩, g0, g1, g2⟩, ⟨⟨d2, d4, h2⟩, x1, ⟨u0, u1, u2⟩, ⟨t0, t1, t2⟩, k0, k1, k2⟩⟩ := HS.out.both
    go_wp2_with fail
    exact HK1.out _ _ _ (fr9_of _ _ _ _ _ _ _ rfl rfl rfl rfl rfl rfl rfl rfl) HS.out (by simp) (by simp)
  · obtain ⟨⟨⟨c2, c4, f2⟩, y1, ⟨v0, v1, v2⟩, ⟨z0, z1, z2⟩, g0, g1, g2⟩, ⟨⟨d2, d4, h2⟩, x1, ⟨u0, u1, u2⟩, ⟨t0, t1, t2⟩, k0, k1, k2⟩⟩ := HS.out.both
    go_wp2_with fail
    exact HK1.out _ _ _ (fr9_of _ _ _ _ _ _ _ rfl rfl rfl rfl rfl rfl rfl rfl) HS.out (by simp) (by simp)
  · obtain ⟨⟨⟨c2, c4, f2⟩, y1, ⟨v0, v1, v2⟩, ⟨z0, z1, z2⟩, g0, g1, g2⟩, ⟨⟨d2, d4, h2⟩, x1, ⟨u0, u1, u2⟩, ⟨t0, t1, t2⟩, k0, k1, k2⟩⟩ := HS.out.both
    go_wp2_with fail
    exact HK1.out _ _ _ (fr9_of _ _ _ _ _ _ _ rfl rfl rfl rfl rfl rfl rfl rfl) HS.out (by simp) (by simp)
  · obtain ⟨⟨⟨c2, c4, f2⟩, y1, ⟨v0, v1, v2⟩, ⟨z0, z1, z2⟩, g0, g1, g2⟩, ⟨⟨d2, d4, h2⟩, x1, ⟨u0, u1, u2⟩, ⟨t0, t1, t2⟩, k0, k1, k2⟩⟩ := HS.out.both
    go_wp2_with fail
    exact HK1.out _ _ _ (fr9_of _ _ _ _ _ _ _ rfl rfl rfl rfl rfl rfl rfl rfl) HS.out (by simp) (by simp)
  · obtain ⟨⟨⟨c2, c4, f2⟩, y1, ⟨v0, v1, v2⟩, ⟨z0, z1, z2⟩, g0, g1, g2⟩, ⟨⟨d2, d4, h2⟩, x1, ⟨u0, u1, u2⟩, ⟨t0, t1, t2⟩, k0, k1, k2⟩⟩ := HS.out.both
    go_wp2_with fail
    refine (sv_fail0 (er := 3) (by decide) HS.out).mono ?_
    clear c2 c4 f2 y1 v0 v1 v2 z0 z1 z2 g0 g1 g2 d2 d4 h2 x1 u0 u1 u2 t0 t1 t2 k0 k1 k2 HS
    rintro e' w9 ⟨rfl, _, HS⟩
    go_wp2_with fail
    exact HK1.out _ _ _ (fr9_of _ _ _ _ _ _ _ rfl rfl rfl rfl rfl rfl rfl rfl) HS.out (fun _ => by rw [HE.out.1 (by decide)]; rfl) (fun h => absurd h (by decide))
  · have q10 : ((kk : Int) == 10) = false := beq_eq_false_iff_ne.2 (by omega)
    have q8 : ((kk : Int) == 8) = false := beq_eq_false_iff_ne.2 (by omega)
    have q7 : ((kk : Int) == 7) = false := beq_eq_false_iff_ne.2 (by omega)
    have q5 : ((kk : Int) == 5) = false := beq_eq_false_iff_ne.2 (by omega)
    have q3 : ((kk : Int) == 3) = false := beq_eq_false_iff_ne.2 (by omega)
    obtain ⟨⟨⟨c2, c4, f2⟩, y1, ⟨v0, v1, v2⟩, ⟨z0, z1, z2⟩, g0, g1, g2⟩, ⟨⟨d2, d4, h2⟩, x1, ⟨u0, u1, u2⟩, ⟨t0, t1, t2⟩, k0, k1, k2⟩⟩ := HS.out.both
    go_wp2_with fail
    refine (sv_fail0 (er := 3) (by decide) HS.out).mono ?_
    clear c2 c4 f2 y1 v0 v1 v2 z0 z1 z2 g0 g1 g2 d2 d4 h2 x1 u0 u1 u2 t0 t1 t2 k0 k1 k2 HS
    rintro e' w9 ⟨rfl, _, HS⟩
    go_wp2_with fail
    exact HK1.out _ _ _ (fr9_of _ _ _ _ _ _ _ rfl rfl rfl rfl rfl rfl rfl rfl) HS.out (fun _ => by rw [HE.out.1 (by decide)]; rfl) (fun h => absurd h (by decide))
end Go.Proofs.YtbhekkkijomglaaGreatDoor
