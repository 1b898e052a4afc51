/- The walk of LexBlanks. -/
import Derived.Test.YtckmhbgpaiocbaaDoorPartsW
import Derived.Deep.RegionWith
import Derived.Deep.RegionHeld3
import Derived.Deep.DrawnRows
import Derived.IntWalk
namespace Go.Proofs.YtckmhbgpaiocbaaDoor
open Go.RowKit
attribute [local go_sem ↓] Go.wp_at_zero Go.wp_at_succ

theorem own_cap {w : World} {B : Nat} {T : TypeId} {v : Value} {ms : List MarkZ} (h : w.ownsRow B T 5 v ms.length (cellsZ ms)) :
    ∃ A c, v = .slice A ms.length c ∧ Msl w A ms ∧ ms.length ≤ c := by
  obtain ⟨A, c, rfl, hA⟩ := own_msl h
  refine ⟨A, c, rfl, hA, ?_⟩
  rcases h.2 with ⟨hv, h0⟩ | ⟨g, cap, cur, hv, _, _, hc, _⟩
  · omega
  · injection hv with _ _ hcc; omega
theorem all_cap (s : ByteArray) (w : World) (hs : s.size ≤ 65536) (hv : Env w) (x : List MarkT × Nat × Nat) (hx : marks 0 s.data.toList = x) :
    Calls Tryd.prog 15 #[.string s] w fun e w' => ∃ A c, e = .returned (.tuple #[.slice A x.1.length c, .int .i64 x.2.1, .int .i64 x.2.2]) ∧ Msl w' A (x.1.map ofT) ∧ x.1.length ≤ c ∧ Below w.heap.size w w' := by
  refine (all_any s w hs hv).mono ?_
  rintro e w' ⟨v, rfl, hown, hb⟩
  rw [marks_lex _ (by simpa using hs), hx] at hown ⊢
  rw [← cellsZ_of] at hown
  have hl : x.1.length = (x.1.map ofT).length := by simp
  rw [hl] at hown
  obtain ⟨A, c, rfl, hA, hc⟩ := own_cap hown
  exact ⟨A, c, by rw [← hl], hA, by omega, hb⟩
theorem Msl.take {w : World} {A : Option Addr} {ms : List MarkZ} (h : Msl w A ms) (k : Nat) : Msl w A (ms.take k) := fun hn => by
  have hne : ms ≠ [] := by intro e; rw [e] at hn; simp at hn
  obtain ⟨g, o, e, hat⟩ := h hne
  refine ⟨g, o, e, ⟨fun _ => hat.lt hne, fun j u hj => hat.cells j u ?_⟩⟩
  have hs : cellsZ ms = cellsZ (ms.take k) ++ cellsZ (ms.drop k) := by rw [← cellsZ_append, List.take_append_drop]
  rw [hs, List.getElem?_append_left (List.getElem?_eq_some_iff.1 hj).1]
  exact hj
theorem Msl.drop {w : World} {g o : Nat} {ms : List MarkZ} (h : Msl w (some ⟨g, o, none⟩) ms) (k : Nat) : Msl w (some ⟨g, o + k * 5, none⟩) (ms.drop k) := fun hn => by
  have hlt : k < ms.length := by
    rcases Nat.lt_or_ge k ms.length with h1 | h1
    · exact h1
    · exact absurd (List.drop_eq_nil_of_le h1) hn
  have hne : ms ≠ [] := by intro e; rw [e] at hlt; simp at hlt
  obtain ⟨g', o', e, hat⟩ := h hne
  injection e with e
  injection e with e1 e2 _
  subst e1 e2
  refine ⟨g, o + k * 5, rfl, ⟨fun _ => hat.lt hne, fun j u hj => ?_⟩⟩
  have hs : cellsZ ms = cellsZ (ms.take k) ++ cellsZ (ms.drop k) := by rw [← cellsZ_append, List.take_append_drop]
  have hl : (cellsZ (ms.take k)).length = k * 5 := by rw [cellsZ_length, List.length_take]; omega
  have := hat.cells (k * 5 + j) u (by rw [hs, List.getElem?_append_right (by omega), hl, show k * 5 + j - k * 5 = j by omega]; exact hj)
  rwa [← Nat.add_assoc] at this
theorem step_append_wanted {P : Program} (w : World) {ops : Array Oper} {o : Oper} {a : Act} {K : Act → World → Prop} {Q : Exit → Act → World → Prop} {E : Prop} (hgd : Region.wanted o (yielded ops a.tmps) = true) (s x : Operand) (t : TypeId)
    (ho : o.op = .call { callee := .builtin .append, args := #[s, x], argTypes := #[t, t] })
    (base : Nat) (e : TypeId) (i : TypeInfo) (z : Value) (size bytes : Nat) (ht : P.underlying t = some (.slice e)) (hi : P.info? e = some i) (hz : i.zero = some z)
    (hsize : i.size = size) (hby : i.bytes = bytes) (hzs : z.cells.size = size) (hsz : 0 < size)
    (v : Value) (n : Nat) (xs : List Value) (hs : a.eval s = v) (hown : w.ownsRow base e size v n xs)
    (B : Nat) (A : Option Addr) (m c : Nat) (news : List Value) (hx : a.eval x = .slice A m c) (hr : Reads w B size A m news) (h1 : ∀ u ∈ news, u.oneCell' = true)
    (h63 : n + m ≤ maxLen) (hbytes : (n + m) * bytes ≤ 140737488355328) (hbase : base ≤ w.heap.size)
    (h : ∀ v' w', w'.ownsRow base e size v' (n + m) (xs ++ news) → w.grownBy w' v.ownBlock → (v'.ownBlock = v.ownBlock ∨ v'.ownBlock = some w.heap.size) → K (a.put o.dst v') w') :
    if Region.wanted o (yielded ops a.tmps) = true then Oper.wp P o a w K Q else E := by
  rw [if_pos hgd]
  exact wp_append_any w s x t ho base e i z size bytes ht hi hz hsize hby hzs hsz v n xs hs hown B A m c news hx hr h1 h63 hbytes hbase h

/-- So many times a byte. -/
def reps (c : UInt8) (n : Nat) : ByteArray := bs (List.replicate n c)
theorem reps_zero (c : UInt8) : (⟨#[]⟩ : ByteArray) = reps c 0 := rfl
theorem reps_succ (c : UInt8) (n : Nat) : reps c n ++ ⟨#[c]⟩ = reps c (n + 1) := by
  unfold reps
  rw [show (⟨#[c]⟩ : ByteArray) = bs [c] from rfl, bs_append, List.replicate_succ']
theorem reps_size (c : UInt8) (n : Nat) : (reps c n).size = n := by unfold reps; rw [bs_size, List.length_replicate]
theorem blank_reps (c : UInt8) (hc : blankB c = true) (n : Nat) : (List.replicate n c).all blankB = true := by
  rw [List.all_eq_true]
  intro x hx
  rw [(List.mem_replicate.1 hx).2]
  exact hc
theorem extract_all (s : ByteArray) : s.extract 0 s.size = s := by
  have hl : s.data.toList.length = s.size := by simp
  rw [bs_extract, List.drop_zero, Nat.sub_zero, List.take_of_length_le (by omega), bs_of]
theorem extract_none (s : ByteArray) : s.extract s.size s.size = bs [] := by rw [bs_extract, Nat.sub_self, List.take_zero]
theorem append_none (s : ByteArray) : s ++ bs [] = s := by
  rw [← bs_of s, bs_append, List.append_nil]
/-- The text with blanks more. -/
theorem more_text (s : ByteArray) (j n : Nat) (c : UInt8) (hj : j ≤ s.size) :
    (s.extract 0 j ++ reps c n ++ s.extract j s.size).data.toList = s.data.toList.take j ++ (List.replicate n c ++ s.data.toList.drop j) := by
  have hl : s.data.toList.length = s.size := by simp
  have e : (s.data.toList.drop j).take (s.size - j) = s.data.toList.drop j := List.take_of_length_le (by rw [List.length_drop, hl]; omega)
  unfold reps
  rw [bs_extract, bs_extract, bs_append, bs_append, bs_list, List.drop_zero, Nat.sub_zero, e, List.append_assoc]


set_option maxRecDepth 100000 in
set_option maxHeartbeats 2000000 in
theorem blanks_line_end (s : ByteArray) (which n : Int) (w : World) (hv : Env w) (h20 : s.size ≤ 20000) (hw0 : 0 ≤ which) (hw1 : which ≤ 65535) (hn0 : 0 ≤ n) (hn1 : n ≤ 255) (xa : List MarkT) (hx : marks 0 s.data.toList = (xa, 0, 0))
    (k : Nat) (hk : which.tmod ((xa.length : Int) + 1) = (k : Int)) (hkn : k = xa.length) :
    Calls Tryd.prog 8 #[.string s, .int .u16 which, .int .u8 n, .bool true] w fun e w' => e = .returned (.bool true) ∧ Below w.heap.size w w' := by
  obtain ⟨n, rfl⟩ : ∃ m : Nat, n = (m : Int) := ⟨n.toNat, by omega⟩
  have hls : s.data.toList.length = s.size := by simp
  have l1 := marks_len s.data.toList 0
  have p1 := marks_places s.data.toList 0 (by omega)
  rw [hx] at l1 p1
  rw [hls] at l1
  simp only at l1 p1
  have a1 := fun W h => all_cap s W (by omega) h _ hx
  obtain ⟨j, hj, hjd⟩ : ∃ j, j ≤ s.size ∧ j = s.size := ⟨_, Nat.le_refl _, rfl⟩
  have hmore := more_blanks s.data.toList 0 k j (List.replicate n 10) (by rw [hx]) (blank_reps 10 rfl n) (.inl ⟨by rw [hx]; exact hkn, by rw [hls]; exact hjd⟩)
  rw [hx, List.length_replicate] at hmore
  simp only at hmore
  have hm3 : marks 0 (s ++ reps 10 n).data.toList = (xa.take k ++ (xa.drop k).map (shiftM n), 0, 0) := by
    have h := more_text s j n 10 hj
    rw [hjd, extract_all, extract_none, append_none] at h
    rw [h, ← hmore, hjd]
  have a3 : ∀ W, Env W → Calls Tryd.prog 15 #[.string (s ++ reps 10 n)] W fun e w' => ∃ A c, e = .returned (.tuple #[.slice A xa.length c, .int .i64 0, .int .i64 0]) ∧ Msl w' A ((xa.map ofT).take k ++ ((xa.map ofT).drop k).map (shiftZ (n : Int))) ∧ Below W.heap.size W w' := by
    intro W h
    refine (all_rows (s ++ reps 10 n) W (by rw [ByteArray.size_append, reps_size]; omega) h _ hm3).mono ?_
    rintro e w' ⟨A, c, rfl, hA, hb⟩
    refine ⟨A, c, ?_, ?_, hb⟩
    · have : (xa.take k ++ (xa.drop k).map (shiftM n)).length = xa.length := by rw [List.length_append, List.length_map, ← List.length_append, List.take_append_drop]
      simp only [this]
      rfl
    · have e : (xa.map ofT).take k ++ ((xa.map ofT).drop k).map (shiftZ (n : Int)) = (xa.take k ++ (xa.drop k).map (shiftM n)).map ofT := by
        rw [List.map_append, List.map_take, List.map_map, ← List.map_drop, List.map_map]
        exact congrArg _ (List.map_congr_left fun m _ => shiftZ_of _ m)
      rw [e]
      exact hA
  have A1 := Lib.hid a1
  have A3 := Lib.hid a3
  have HK := Lib.hid hk
  have P1 := Lib.hid p1
  clear a1 a3 hm3 hmore hx hls hk p1
  go_enter Tryd.func8, Tryd.ntmps8
  go_wp2_with fail
  refine (awake_any _ hv).mono ?_
  rintro e w1 ⟨rfl, b1⟩
  go_wp2_with fail
  refine (A1.out _ (hv.step b1)).mono ?_
  rintro e w2 ⟨A, c, rfl, m1, hc, b2⟩
  have h2 := b1.trans (b2.mono b1.size)
  clear b1 b2
  have HJ := Lib.hid hjd; clear hjd
  have HKN := Lib.hid hkn
  have hkge : xa.length ≤ k := by omega
  have hkle : k ≤ xa.length := by omega
  clear hkn
  have hrem := HK.out
  have jj0 : (0 : Int) ≤ (j : Int) := by omega
  have jj1 : (j : Int) ≤ (s.size : Int) := by omega
  go_wp2_with fail
  go_quiet (fail)
  go_wp2_with fail
  go_loop [14, 15] (fun b i => ∃ q : Nat, q ≤ n ∧ i = .int .i64 q ∧ b = .string (reps 10 q)) (fun _ i => n - (intOf i).toNat)
  case atStart => exact ⟨0, Nat.zero_le _, rfl, rfl⟩
  case round =>
    obtain ⟨q, hq, rfl, rfl⟩ := hrel
    have hrs : (reps 10 q).size ≤ 255 := by rw [reps_size]; omega
    by_cases hlt : q < n
    · have HS := reps_succ 10 q
      go_wp2_with fail
      go_round
      case rel => exact ⟨q + 1, by omega, by go_num, rfl⟩
      case measure => simp [intOf]; omega
    · obtain rfl : q = n := by omega
      go_wp2_with fail
      go_region_with ((go_at_call 15; refine (A3.out _ ?_).mono ?_; exact (hv.step h2).q ⟨_, rfl⟩; rintro e w3 ⟨A3v, c3, rfl, m3, b3⟩))
      have mP : Msl w2 A ((xa.map ofT).take k) := m1.take k
      have mS : Msl w2 (if c = k then A else A.map (·.add (k * 5))) ((xa.map ofT).drop k) := by
        rw [List.drop_eq_nil_of_le (by simp; omega)]
        exact Msl.nil _ _
      have b3 : Below w2.heap.size w2 w3 := ⟨b3.os, b3.tape, b3.output, b3.size, b3.block⟩
      have h3 := h2.trans (b3.mono h2.size)
      have mPb := mP.below b3
      have mSb := mS.below b3
      clear mP mS b3 m1 jj0 jj1 hrem h2
      have k0 : (0 : Int) ≤ (k : Int) := by omega
      have k1 : (k : Int) ≤ (xa.length : Int) := by omega
      have k2 : (xa.length : Int) ≤ (c : Int) := by omega
      have k3 : (k : Int) ≤ (c : Int) := by omega
      
      have LZ : (xa.map ofT).length = xa.length := by simp
      have pok : ∀ m ∈ (xa.map ofT).drop k, PlaceOk m := fun m hm => P1.out m (List.mem_of_mem_drop hm)
      have mSall : ∀ W A', Msl W A' ((xa.map ofT).drop k) := fun W A' => by
        rw [List.drop_eq_nil_of_le (by simp; omega)]
        exact Msl.nil _ _
      generalize xa.map ofT = za at *
      have L3 : Hid ((za.take k ++ (za.drop k).map (shiftZ (q : Int))).length = xa.length) := by
        show _ = _
        rw [List.length_append, List.length_map, ← List.length_append, List.take_append_drop, LZ]
      have LP : Hid ((za.take k).length = k) := by show _ = _; rw [List.length_take, LZ]; omega
      have LS : Hid ((za.drop k).length = xa.length - k) := by show _ = _; rw [List.length_drop, LZ]
      have POK := Lib.hid pok
      clear LZ pok P1
      generalize za.take k = ZP at *
      generalize za.drop k = ZS at *
      have mr : Hid (ZP ++ ZS.map (shiftZ (q : Int)) = ZP ++ ZS.map (shiftZ (q : Int))) := rfl
      generalize hZ3 : ZP ++ ZS.map (shiftZ (q : Int)) = Z3 at m3 L3 mr
      have HZ3 := Lib.hid hZ3; clear hZ3
      have B3 : Z3.length ≤ 1048576 := by rw [L3.out]; omega
      have BP : ZP.length ≤ 1048576 := by rw [LP.out]; omega
      have BS : ZS.length ≤ 1048576 := by rw [LS.out]; omega
      have HB := Lib.hid (And.intro B3 (And.intro BP BS)); clear B3 BP BS
      obtain ⟨i0, hi, hz0, hz1, hz2⟩ := info_parts (P := Tryd.prog) (e := 28) (z := .agg #[.int .u8 0, .int .i64 0, .int .i64 0, .int .i64 0, .string ⟨#[]⟩]) (size := 5) (bytes := 48) (by kernel_rfl)
      have HU : Tryd.prog.underlying 32 = some (.slice 28) := by kernel_rfl
      have HI := Lib.hid (And.intro hi (And.intro hz0 (And.intro hz1 (And.intro hz2 HU))))
      clear hi hz0 hz1 hz2 HU
      rcases (by omega : k = c ∨ k < c) with rfl | hcc
      all_goals
        go_wp2_with fail
        have hwq : IntKind.i64.wrap ((q : Nat) : Int) = ((q : Nat) : Int) := IntWalk.i64_in _ (by omega)
        go_region_held3 (fun _ => True) (trivial) (first
          | (go_at_call_of 17 (A3v)
             refine (told_n Z3 A3v _ c3 _ L3.out HB.out.1 ?_).mono ?_
             · exact m3.below ⟨rfl, rfl, rfl, Nat.le_refl _, fun _ _ => rfl⟩
             rintro e w5 ⟨v5, rfl, own5, b5⟩
             obtain ⟨A5, c5, rfl, m5⟩ := own_msl own5
             have b5' : Below w3.heap.size w3 w5 := ⟨b5.os, b5.tape, b5.output, b5.size, b5.block⟩
             have h5 := h3.trans (b5'.mono h3.size)
             have mPc := mPb.below b5'
             have mSc := mSb.below b5'
             clear own5 b5 b5')
          | (go_at_call 17
             refine (told_n ZP _ _ _ _ LP.out HB.out.2.1 ?_).mono ?_
             · exact mPc.below ⟨rfl, rfl, rfl, Nat.le_refl _, fun _ _ => rfl⟩
             rintro e w6 ⟨v6, rfl, own6, b6⟩
             have b6' : Below w5.heap.size w5 w6 := ⟨b6.os, b6.tape, b6.output, b6.size, b6.block⟩
             have mSd := mSc.below b6'
             have own6' : w6.ownsRow w5.heap.size 28 5 v6 ZP.length (cellsZ ZP) := own6
             clear b6 own6)
          | (go_at_call 22
             refine (moved_n ZS _ _ _ _ _ (by first | exact LS.out | (rw [LS.out]; omega)) HB.out.2.2 ?_ (by omega) (by omega) POK.out).mono ?_
             · exact mSall _ _
             rintro e w7 ⟨v7, rfl, own7, b7⟩
             have b7' : Below w6.heap.size w6 w7 := ⟨b7.os, b7.tape, b7.output, b7.size, b7.block⟩
             have own6b := own_below own6' b7'
             have hl7 : ZS.length = (ZS.map (shiftZ (q : Int))).length := by simp
             rw [hl7] at own7
             obtain ⟨A7, c7, rfl, m7⟩ := own_msl own7
             have hr7 := Reads.of_own own7
             rw [← hl7] at hr7 ⊢
             have hb7 := b6'.trans (b7'.mono b6'.size)
             clear b7 hl7 m7)
          | (refine step_append_wanted _ (by rfl) _ _ 32 (by rfl) w5.heap.size 28 i0 (.agg #[.int .u8 0, .int .i64 0, .int .i64 0, .int .i64 0, .string ⟨#[]⟩]) 5 48 HI.out.2.2.2.2 HI.out.1 HI.out.2.1 HI.out.2.2.1 HI.out.2.2.2.1 rfl (by decide) v6 _ _ (by rfl) own6b w7.heap.size A7 _ c7 _ (by rfl) hr7 (zCells_one _) ?_ ?_ ?_ ?_
             · have := HB.out; unfold maxLen; omega
             · have := HB.out; omega
             · exact hb7.size
             intro v8 w8 own8 hg8 _
             have own8' : w8.ownsRow w5.heap.size 28 5 v8 Z3.length (cellsZ Z3) := by
               rw [← HZ3.out, cellsZ_append, List.length_append, List.length_map]; exact own8
             obtain ⟨A8, c8, rfl, m8⟩ := own_msl own8'
             have b8 : Below w5.heap.size w5 w8 := Below.grown hb7 hg8 hb7.size (fun j hj => (own6b.lt _ hj).1)
             have m5b := m5.below b8
             have H8 := Lib.hid (And.intro (h5.trans (b8.mono h5.size)) (And.intro m5b m8))
             clear own8 own8' hg8 m8 m5b b8)
          | (go_at_call 16
             refine (same_n Z3 A5 A8 _ _ c5 c8 _ rfl rfl HB.out.1 ?_ ?_).mono ?_
             · exact H8.out.2.1.below ⟨rfl, rfl, rfl, Nat.le_refl _, fun _ _ => rfl⟩
             · exact H8.out.2.2.below ⟨rfl, rfl, rfl, Nat.le_refl _, fun _ _ => rfl⟩
             rintro e w9 ⟨rfl, b9⟩
             have b9' : Below w8.heap.size w8 w9 := ⟨b9.os, b9.tape, b9.output, b9.size, b9.block⟩
             clear b9))
        go_wp2_with fail
        go_ret
        exact ⟨rfl, H8.out.1.trans (b9'.mono H8.out.1.size)⟩

set_option maxRecDepth 100000 in
set_option maxHeartbeats 2000000 in
theorem blanks_line_mid (s : ByteArray) (which n : Int) (w : World) (hv : Env w) (h20 : s.size ≤ 20000) (hw0 : 0 ≤ which) (hw1 : which ≤ 65535) (hn0 : 0 ≤ n) (hn1 : n ≤ 255) (xa : List MarkT) (hx : marks 0 s.data.toList = (xa, 0, 0))
    (k : Nat) (hk : which.tmod ((xa.length : Int) + 1) = (k : Int)) (hkn : k < xa.length) :
    Calls Tryd.prog 8 #[.string s, .int .u16 which, .int .u8 n, .bool true] w fun e w' => e = .returned (.bool true) ∧ Below w.heap.size w w' := by
  obtain ⟨n, rfl⟩ : ∃ m : Nat, n = (m : Int) := ⟨n.toNat, by omega⟩
  have hls : s.data.toList.length = s.size := by simp
  have l1 := marks_len s.data.toList 0
  have p1 := marks_places s.data.toList 0 (by omega)
  rw [hx] at l1 p1
  rw [hls] at l1
  simp only at l1 p1
  have a1 := fun W h => all_cap s W (by omega) h _ hx
  obtain ⟨m, hm⟩ : ∃ m, xa[k]? = some m := ⟨xa[k], List.getElem?_eq_getElem hkn⟩
  have hstd := marks_stand s.data.toList 0 m (by rw [hx]; exact List.mem_of_getElem? hm)
  have hst2 := hstd.at2
  have hst3 := hstd.at3
  rw [hls] at hst3
  obtain ⟨j, hj, hjd⟩ : ∃ j, j ≤ s.size ∧ j = m.2.1 := ⟨m.2.1, by omega, rfl⟩
  have hmore := more_blanks s.data.toList 0 k j (List.replicate n 10) (by rw [hx]) (blank_reps 10 rfl n) (.inr ⟨m, by rw [hx]; exact hm, by omega⟩)
  rw [hx, List.length_replicate] at hmore
  simp only at hmore
  have hm3 := (congrArg (marks 0) (more_text s j n 10 hj)).trans hmore
  have a3 : ∀ W, Env W → Calls Tryd.prog 15 #[.string (s.extract 0 j ++ reps 10 n ++ s.extract j s.size)] W fun e w' => ∃ A c, e = .returned (.tuple #[.slice A xa.length c, .int .i64 0, .int .i64 0]) ∧ Msl w' A ((xa.map ofT).take k ++ ((xa.map ofT).drop k).map (shiftZ (n : Int))) ∧ Below W.heap.size W w' := by
    intro W h
    refine (all_rows (s.extract 0 j ++ reps 10 n ++ s.extract j s.size) W (by rw [ByteArray.size_append, ByteArray.size_append, reps_size, ByteArray.size_extract, ByteArray.size_extract]; omega) h _ hm3).mono ?_
    rintro e w' ⟨A, c, rfl, hA, hb⟩
    refine ⟨A, c, ?_, ?_, hb⟩
    · have : (xa.take k ++ (xa.drop k).map (shiftM n)).length = xa.length := by rw [List.length_append, List.length_map, ← List.length_append, List.take_append_drop]
      simp only [this]
      rfl
    · have e : (xa.map ofT).take k ++ ((xa.map ofT).drop k).map (shiftZ (n : Int)) = (xa.take k ++ (xa.drop k).map (shiftM n)).map ofT := by
        rw [List.map_append, List.map_take, List.map_map, ← List.map_drop, List.map_map]
        exact congrArg _ (List.map_congr_left fun m _ => shiftZ_of _ m)
      rw [e]
      exact hA
  have A1 := Lib.hid a1
  have A3 := Lib.hid a3
  have HK := Lib.hid hk
  have P1 := Lib.hid p1
  clear a1 a3 hm3 hmore hx hls hk p1
  go_enter Tryd.func8, Tryd.ntmps8
  go_wp2_with fail
  refine (awake_any _ hv).mono ?_
  rintro e w1 ⟨rfl, b1⟩
  go_wp2_with fail
  refine (A1.out _ (hv.step b1)).mono ?_
  rintro e w2 ⟨A, c, rfl, m1, hc, b2⟩
  have h2 := b1.trans (b2.mono b1.size)
  clear b1 b2
  have m1' := m1
  obtain ⟨g, o, rfl, hat⟩ := m1' (by intro e; rw [List.map_eq_nil_iff.1 e] at hkn; simp at hkn)
  have hget : (xa.map ofT)[k]? = some (ofT m) := by rw [List.getElem?_map, hm]; rfl
  obtain ⟨_, c1, _, _, _⟩ := hat.five hget
  simp only [ofT, ← hjd] at c1
  have HJ := Lib.hid hjd
  clear hm hget hstd hst2 hst3 hjd
  have hrem := HK.out
  have jj0 : (0 : Int) ≤ (j : Int) := by omega
  have jj1 : (j : Int) ≤ (s.size : Int) := by omega
  go_wp2_with fail
  go_quiet (fail)
  go_wp2_with fail
  go_loop [14, 15] (fun b i => ∃ q : Nat, q ≤ n ∧ i = .int .i64 q ∧ b = .string (reps 10 q)) (fun _ i => n - (intOf i).toNat)
  case atStart => exact ⟨0, Nat.zero_le _, rfl, rfl⟩
  case round =>
    obtain ⟨q, hq, rfl, rfl⟩ := hrel
    have hrs : (reps 10 q).size ≤ 255 := by rw [reps_size]; omega
    by_cases hlt : q < n
    · have HS := reps_succ 10 q
      go_wp2_with fail
      go_round
      case rel => exact ⟨q + 1, by omega, by go_num, rfl⟩
      case measure => simp [intOf]; omega
    · obtain rfl : q = n := by omega
      go_wp2_with fail
      go_region_with ((go_at_call 15; refine (A3.out _ ?_).mono ?_; exact (hv.step h2).q ⟨_, rfl⟩; rintro e w3 ⟨A3v, c3, rfl, m3, b3⟩))
      have mP : Msl w2 (some ⟨g, o, none⟩) ((xa.map ofT).take k) := m1.take k
      have mS : Msl w2 (some ⟨g, o + k * 5, none⟩) ((xa.map ofT).drop k) := m1.drop k
      have b3 : Below w2.heap.size w2 w3 := ⟨b3.os, b3.tape, b3.output, b3.size, b3.block⟩
      have h3 := h2.trans (b3.mono h2.size)
      have mPb := mP.below b3
      have mSb := mS.below b3
      clear mP mS b3 m1 jj0 jj1 hrem h2
      have k0 : (0 : Int) ≤ (k : Int) := by omega
      have k1 : (k : Int) ≤ (xa.length : Int) := by omega
      have k2 : (xa.length : Int) ≤ (c : Int) := by omega
      have k3 : (k : Int) ≤ (c : Int) := by omega
      have k4 : (c = k) = False := by simp; omega
      have LZ : (xa.map ofT).length = xa.length := by simp
      have pok : ∀ m ∈ (xa.map ofT).drop k, PlaceOk m := fun m hm => P1.out m (List.mem_of_mem_drop hm)
      skip
      generalize xa.map ofT = za at *
      have L3 : Hid ((za.take k ++ (za.drop k).map (shiftZ (q : Int))).length = xa.length) := by
        show _ = _
        rw [List.length_append, List.length_map, ← List.length_append, List.take_append_drop, LZ]
      have LP : Hid ((za.take k).length = k) := by show _ = _; rw [List.length_take, LZ]; omega
      have LS : Hid ((za.drop k).length = xa.length - k) := by show _ = _; rw [List.length_drop, LZ]
      have POK := Lib.hid pok
      clear LZ pok P1
      generalize za.take k = ZP at *
      generalize za.drop k = ZS at *
      have mr : Hid (ZP ++ ZS.map (shiftZ (q : Int)) = ZP ++ ZS.map (shiftZ (q : Int))) := rfl
      generalize hZ3 : ZP ++ ZS.map (shiftZ (q : Int)) = Z3 at m3 L3 mr
      have HZ3 := Lib.hid hZ3; clear hZ3
      have B3 : Z3.length ≤ 1048576 := by rw [L3.out]; omega
      have BP : ZP.length ≤ 1048576 := by rw [LP.out]; omega
      have BS : ZS.length ≤ 1048576 := by rw [LS.out]; omega
      have HB := Lib.hid (And.intro B3 (And.intro BP BS)); clear B3 BP BS
      obtain ⟨i0, hi, hz0, hz1, hz2⟩ := info_parts (P := Tryd.prog) (e := 28) (z := .agg #[.int .u8 0, .int .i64 0, .int .i64 0, .int .i64 0, .string ⟨#[]⟩]) (size := 5) (bytes := 48) (by kernel_rfl)
      have HU : Tryd.prog.underlying 32 = some (.slice 28) := by kernel_rfl
      have HI := Lib.hid (And.intro hi (And.intro hz0 (And.intro hz1 (And.intro hz2 HU))))
      clear hi hz0 hz1 hz2 HU
      skip
      all_goals
        go_wp2_with fail
        have hwq : IntKind.i64.wrap ((q : Nat) : Int) = ((q : Nat) : Int) := IntWalk.i64_in _ (by omega)
        go_region_held3 (fun _ => True) (trivial) (first
          | (go_at_call_of 17 (A3v)
             refine (told_n Z3 A3v _ c3 _ L3.out HB.out.1 ?_).mono ?_
             · exact m3.below ⟨rfl, rfl, rfl, Nat.le_refl _, fun _ _ => rfl⟩
             rintro e w5 ⟨v5, rfl, own5, b5⟩
             obtain ⟨A5, c5, rfl, m5⟩ := own_msl own5
             have b5' : Below w3.heap.size w3 w5 := ⟨b5.os, b5.tape, b5.output, b5.size, b5.block⟩
             have h5 := h3.trans (b5'.mono h3.size)
             have mPc := mPb.below b5'
             have mSc := mSb.below b5'
             clear own5 b5 b5')
          | (go_at_call 17
             refine (told_n ZP _ _ _ _ LP.out HB.out.2.1 ?_).mono ?_
             · exact mPc.below ⟨rfl, rfl, rfl, Nat.le_refl _, fun _ _ => rfl⟩
             rintro e w6 ⟨v6, rfl, own6, b6⟩
             have b6' : Below w5.heap.size w5 w6 := ⟨b6.os, b6.tape, b6.output, b6.size, b6.block⟩
             have mSd := mSc.below b6'
             have own6' : w6.ownsRow w5.heap.size 28 5 v6 ZP.length (cellsZ ZP) := own6
             clear b6 own6)
          | (go_at_call 22
             refine (moved_n ZS _ _ _ _ _ (by first | exact LS.out | (rw [LS.out]; omega)) HB.out.2.2 ?_ (by omega) (by omega) POK.out).mono ?_
             · exact mSd.below ⟨rfl, rfl, rfl, Nat.le_refl _, fun _ _ => rfl⟩
             rintro e w7 ⟨v7, rfl, own7, b7⟩
             have b7' : Below w6.heap.size w6 w7 := ⟨b7.os, b7.tape, b7.output, b7.size, b7.block⟩
             have own6b := own_below own6' b7'
             have hl7 : ZS.length = (ZS.map (shiftZ (q : Int))).length := by simp
             rw [hl7] at own7
             obtain ⟨A7, c7, rfl, m7⟩ := own_msl own7
             have hr7 := Reads.of_own own7
             rw [← hl7] at hr7 ⊢
             have hb7 := b6'.trans (b7'.mono b6'.size)
             clear b7 hl7 m7)
          | (refine step_append_wanted _ (by rfl) _ _ 32 (by rfl) w5.heap.size 28 i0 (.agg #[.int .u8 0, .int .i64 0, .int .i64 0, .int .i64 0, .string ⟨#[]⟩]) 5 48 HI.out.2.2.2.2 HI.out.1 HI.out.2.1 HI.out.2.2.1 HI.out.2.2.2.1 rfl (by decide) v6 _ _ (by rfl) own6b w7.heap.size A7 _ c7 _ (by rfl) hr7 (zCells_one _) ?_ ?_ ?_ ?_
             · have := HB.out; unfold maxLen; omega
             · have := HB.out; omega
             · exact hb7.size
             intro v8 w8 own8 hg8 _
             have own8' : w8.ownsRow w5.heap.size 28 5 v8 Z3.length (cellsZ Z3) := by
               rw [← HZ3.out, cellsZ_append, List.length_append, List.length_map]; exact own8
             obtain ⟨A8, c8, rfl, m8⟩ := own_msl own8'
             have b8 : Below w5.heap.size w5 w8 := Below.grown hb7 hg8 hb7.size (fun j hj => (own6b.lt _ hj).1)
             have m5b := m5.below b8
             have H8 := Lib.hid (And.intro (h5.trans (b8.mono h5.size)) (And.intro m5b m8))
             clear own8 own8' hg8 m8 m5b b8)
          | (go_at_call 16
             refine (same_n Z3 A5 A8 _ _ c5 c8 _ rfl rfl HB.out.1 ?_ ?_).mono ?_
             · exact H8.out.2.1.below ⟨rfl, rfl, rfl, Nat.le_refl _, fun _ _ => rfl⟩
             · exact H8.out.2.2.below ⟨rfl, rfl, rfl, Nat.le_refl _, fun _ _ => rfl⟩
             rintro e w9 ⟨rfl, b9⟩
             have b9' : Below w8.heap.size w8 w9 := ⟨b9.os, b9.tape, b9.output, b9.size, b9.block⟩
             clear b9))
        go_wp2_with fail
        go_ret
        exact ⟨rfl, H8.out.1.trans (b9'.mono H8.out.1.size)⟩

set_option maxRecDepth 100000 in
set_option maxHeartbeats 2000000 in
theorem blanks_space_end (s : ByteArray) (which n : Int) (w : World) (hv : Env w) (h20 : s.size ≤ 20000) (hw0 : 0 ≤ which) (hw1 : which ≤ 65535) (hn0 : 0 ≤ n) (hn1 : n ≤ 255) (xa : List MarkT) (hx : marks 0 s.data.toList = (xa, 0, 0))
    (k : Nat) (hk : which.tmod ((xa.length : Int) + 1) = (k : Int)) (hkn : k = xa.length) :
    Calls Tryd.prog 8 #[.string s, .int .u16 which, .int .u8 n, .bool false] w fun e w' => e = .returned (.bool true) ∧ Below w.heap.size w w' := by
  obtain ⟨n, rfl⟩ : ∃ m : Nat, n = (m : Int) := ⟨n.toNat, by omega⟩
  have hls : s.data.toList.length = s.size := by simp
  have l1 := marks_len s.data.toList 0
  have p1 := marks_places s.data.toList 0 (by omega)
  rw [hx] at l1 p1
  rw [hls] at l1
  simp only at l1 p1
  have a1 := fun W h => all_cap s W (by omega) h _ hx
  obtain ⟨j, hj, hjd⟩ : ∃ j, j ≤ s.size ∧ j = s.size := ⟨_, Nat.le_refl _, rfl⟩
  have hmore := more_blanks s.data.toList 0 k j (List.replicate n 32) (by rw [hx]) (blank_reps 32 rfl n) (.inl ⟨by rw [hx]; exact hkn, by rw [hls]; exact hjd⟩)
  rw [hx, List.length_replicate] at hmore
  simp only at hmore
  have hm3 : marks 0 (s ++ reps 32 n).data.toList = (xa.take k ++ (xa.drop k).map (shiftM n), 0, 0) := by
    have h := more_text s j n 32 hj
    rw [hjd, extract_all, extract_none, append_none] at h
    rw [h, ← hmore, hjd]
  have a3 : ∀ W, Env W → Calls Tryd.prog 15 #[.string (s ++ reps 32 n)] W fun e w' => ∃ A c, e = .returned (.tuple #[.slice A xa.length c, .int .i64 0, .int .i64 0]) ∧ Msl w' A ((xa.map ofT).take k ++ ((xa.map ofT).drop k).map (shiftZ (n : Int))) ∧ Below W.heap.size W w' := by
    intro W h
    refine (all_rows (s ++ reps 32 n) W (by rw [ByteArray.size_append, reps_size]; omega) h _ hm3).mono ?_
    rintro e w' ⟨A, c, rfl, hA, hb⟩
    refine ⟨A, c, ?_, ?_, hb⟩
    · have : (xa.take k ++ (xa.drop k).map (shiftM n)).length = xa.length := by rw [List.length_append, List.length_map, ← List.length_append, List.take_append_drop]
      simp only [this]
      rfl
    · have e : (xa.map ofT).take k ++ ((xa.map ofT).drop k).map (shiftZ (n : Int)) = (xa.take k ++ (xa.drop k).map (shiftM n)).map ofT := by
        rw [List.map_append, List.map_take, List.map_map, ← List.map_drop, List.map_map]
        exact congrArg _ (List.map_congr_left fun m _ => shiftZ_of _ m)
      rw [e]
      exact hA
  have A1 := Lib.hid a1
  have A3 := Lib.hid a3
  have HK := Lib.hid hk
  have P1 := Lib.hid p1
  clear a1 a3 hm3 hmore hx hls hk p1
  go_enter Tryd.func8, Tryd.ntmps8
  go_wp2_with fail
  refine (awake_any _ hv).mono ?_
  rintro e w1 ⟨rfl, b1⟩
  go_wp2_with fail
  refine (A1.out _ (hv.step b1)).mono ?_
  rintro e w2 ⟨A, c, rfl, m1, hc, b2⟩
  have h2 := b1.trans (b2.mono b1.size)
  clear b1 b2
  have HJ := Lib.hid hjd; clear hjd
  have HKN := Lib.hid hkn
  have hkge : xa.length ≤ k := by omega
  have hkle : k ≤ xa.length := by omega
  clear hkn
  have hrem := HK.out
  have jj0 : (0 : Int) ≤ (j : Int) := by omega
  have jj1 : (j : Int) ≤ (s.size : Int) := by omega
  go_wp2_with fail
  go_quiet (fail)
  go_wp2_with fail
  go_loop [14, 15] (fun b i => ∃ q : Nat, q ≤ n ∧ i = .int .i64 q ∧ b = .string (reps 32 q)) (fun _ i => n - (intOf i).toNat)
  case atStart => exact ⟨0, Nat.zero_le _, rfl, rfl⟩
  case round =>
    obtain ⟨q, hq, rfl, rfl⟩ := hrel
    have hrs : (reps 32 q).size ≤ 255 := by rw [reps_size]; omega
    by_cases hlt : q < n
    · have HS := reps_succ 32 q
      go_wp2_with fail
      go_round
      case rel => exact ⟨q + 1, by omega, by go_num, rfl⟩
      case measure => simp [intOf]; omega
    · obtain rfl : q = n := by omega
      go_wp2_with fail
      go_region_with ((go_at_call 15; refine (A3.out _ ?_).mono ?_; exact (hv.step h2).q ⟨_, rfl⟩; rintro e w3 ⟨A3v, c3, rfl, m3, b3⟩))
      have mP : Msl w2 A ((xa.map ofT).take k) := m1.take k
      have mS : Msl w2 (if c = k then A else A.map (·.add (k * 5))) ((xa.map ofT).drop k) := by
        rw [List.drop_eq_nil_of_le (by simp; omega)]
        exact Msl.nil _ _
      have b3 : Below w2.heap.size w2 w3 := ⟨b3.os, b3.tape, b3.output, b3.size, b3.block⟩
      have h3 := h2.trans (b3.mono h2.size)
      have mPb := mP.below b3
      have mSb := mS.below b3
      clear mP mS b3 m1 jj0 jj1 hrem h2
      have k0 : (0 : Int) ≤ (k : Int) := by omega
      have k1 : (k : Int) ≤ (xa.length : Int) := by omega
      have k2 : (xa.length : Int) ≤ (c : Int) := by omega
      have k3 : (k : Int) ≤ (c : Int) := by omega
      
      have LZ : (xa.map ofT).length = xa.length := by simp
      have pok : ∀ m ∈ (xa.map ofT).drop k, PlaceOk m := fun m hm => P1.out m (List.mem_of_mem_drop hm)
      have mSall : ∀ W A', Msl W A' ((xa.map ofT).drop k) := fun W A' => by
        rw [List.drop_eq_nil_of_le (by simp; omega)]
        exact Msl.nil _ _
      generalize xa.map ofT = za at *
      have L3 : Hid ((za.take k ++ (za.drop k).map (shiftZ (q : Int))).length = xa.length) := by
        show _ = _
        rw [List.length_append, List.length_map, ← List.length_append, List.take_append_drop, LZ]
      have LP : Hid ((za.take k).length = k) := by show _ = _; rw [List.length_take, LZ]; omega
      have LS : Hid ((za.drop k).length = xa.length - k) := by show _ = _; rw [List.length_drop, LZ]
      have POK := Lib.hid pok
      clear LZ pok P1
      generalize za.take k = ZP at *
      generalize za.drop k = ZS at *
      have mr : Hid (ZP ++ ZS.map (shiftZ (q : Int)) = ZP ++ ZS.map (shiftZ (q : Int))) := rfl
      generalize hZ3 : ZP ++ ZS.map (shiftZ (q : Int)) = Z3 at m3 L3 mr
      have HZ3 := Lib.hid hZ3; clear hZ3
      have B3 : Z3.length ≤ 1048576 := by rw [L3.out]; omega
      have BP : ZP.length ≤ 1048576 := by rw [LP.out]; omega
      have BS : ZS.length ≤ 1048576 := by rw [LS.out]; omega
      have HB := Lib.hid (And.intro B3 (And.intro BP BS)); clear B3 BP BS
      obtain ⟨i0, hi, hz0, hz1, hz2⟩ := info_parts (P := Tryd.prog) (e := 28) (z := .agg #[.int .u8 0, .int .i64 0, .int .i64 0, .int .i64 0, .string ⟨#[]⟩]) (size := 5) (bytes := 48) (by kernel_rfl)
      have HU : Tryd.prog.underlying 32 = some (.slice 28) := by kernel_rfl
      have HI := Lib.hid (And.intro hi (And.intro hz0 (And.intro hz1 (And.intro hz2 HU))))
      clear hi hz0 hz1 hz2 HU
      rcases (by omega : k = c ∨ k < c) with rfl | hcc
      all_goals
        go_wp2_with fail
        have hwq : IntKind.i64.wrap ((q : Nat) : Int) = ((q : Nat) : Int) := IntWalk.i64_in _ (by omega)
        go_region_held3 (fun _ => True) (trivial) (first
          | (go_at_call_of 17 (A3v)
             refine (told_n Z3 A3v _ c3 _ L3.out HB.out.1 ?_).mono ?_
             · exact m3.below ⟨rfl, rfl, rfl, Nat.le_refl _, fun _ _ => rfl⟩
             rintro e w5 ⟨v5, rfl, own5, b5⟩
             obtain ⟨A5, c5, rfl, m5⟩ := own_msl own5
             have b5' : Below w3.heap.size w3 w5 := ⟨b5.os, b5.tape, b5.output, b5.size, b5.block⟩
             have h5 := h3.trans (b5'.mono h3.size)
             have mPc := mPb.below b5'
             have mSc := mSb.below b5'
             clear own5 b5 b5')
          | (go_at_call 17
             refine (told_n ZP _ _ _ _ LP.out HB.out.2.1 ?_).mono ?_
             · exact mPc.below ⟨rfl, rfl, rfl, Nat.le_refl _, fun _ _ => rfl⟩
             rintro e w6 ⟨v6, rfl, own6, b6⟩
             have b6' : Below w5.heap.size w5 w6 := ⟨b6.os, b6.tape, b6.output, b6.size, b6.block⟩
             have mSd := mSc.below b6'
             have own6' : w6.ownsRow w5.heap.size 28 5 v6 ZP.length (cellsZ ZP) := own6
             clear b6 own6)
          | (go_at_call 22
             refine (moved_n ZS _ _ _ _ _ (by first | exact LS.out | (rw [LS.out]; omega)) HB.out.2.2 ?_ (by omega) (by omega) POK.out).mono ?_
             · exact mSall _ _
             rintro e w7 ⟨v7, rfl, own7, b7⟩
             have b7' : Below w6.heap.size w6 w7 := ⟨b7.os, b7.tape, b7.output, b7.size, b7.block⟩
             have own6b := own_below own6' b7'
             have hl7 : ZS.length = (ZS.map (shiftZ (q : Int))).length := by simp
             rw [hl7] at own7
             obtain ⟨A7, c7, rfl, m7⟩ := own_msl own7
             have hr7 := Reads.of_own own7
             rw [← hl7] at hr7 ⊢
             have hb7 := b6'.trans (b7'.mono b6'.size)
             clear b7 hl7 m7)
          | (refine step_append_wanted _ (by rfl) _ _ 32 (by rfl) w5.heap.size 28 i0 (.agg #[.int .u8 0, .int .i64 0, .int .i64 0, .int .i64 0, .string ⟨#[]⟩]) 5 48 HI.out.2.2.2.2 HI.out.1 HI.out.2.1 HI.out.2.2.1 HI.out.2.2.2.1 rfl (by decide) v6 _ _ (by rfl) own6b w7.heap.size A7 _ c7 _ (by rfl) hr7 (zCells_one _) ?_ ?_ ?_ ?_
             · have := HB.out; unfold maxLen; omega
             · have := HB.out; omega
             · exact hb7.size
             intro v8 w8 own8 hg8 _
             have own8' : w8.ownsRow w5.heap.size 28 5 v8 Z3.length (cellsZ Z3) := by
               rw [← HZ3.out, cellsZ_append, List.length_append, List.length_map]; exact own8
             obtain ⟨A8, c8, rfl, m8⟩ := own_msl own8'
             have b8 : Below w5.heap.size w5 w8 := Below.grown hb7 hg8 hb7.size (fun j hj => (own6b.lt _ hj).1)
             have m5b := m5.below b8
             have H8 := Lib.hid (And.intro (h5.trans (b8.mono h5.size)) (And.intro m5b m8))
             clear own8 own8' hg8 m8 m5b b8)
          | (go_at_call 16
             refine (same_n Z3 A5 A8 _ _ c5 c8 _ rfl rfl HB.out.1 ?_ ?_).mono ?_
             · exact H8.out.2.1.below ⟨rfl, rfl, rfl, Nat.le_refl _, fun _ _ => rfl⟩
             · exact H8.out.2.2.below ⟨rfl, rfl, rfl, Nat.le_refl _, fun _ _ => rfl⟩
             rintro e w9 ⟨rfl, b9⟩
             have b9' : Below w8.heap.size w8 w9 := ⟨b9.os, b9.tape, b9.output, b9.size, b9.block⟩
             clear b9))
        go_wp2_with fail
        go_ret
        exact ⟨rfl, H8.out.1.trans (b9'.mono H8.out.1.size)⟩

set_option maxRecDepth 100000 in
set_option maxHeartbeats 2000000 in
theorem blanks_space_mid (s : ByteArray) (which n : Int) (w : World) (hv : Env w) (h20 : s.size ≤ 20000) (hw0 : 0 ≤ which) (hw1 : which ≤ 65535) (hn0 : 0 ≤ n) (hn1 : n ≤ 255) (xa : List MarkT) (hx : marks 0 s.data.toList = (xa, 0, 0))
    (k : Nat) (hk : which.tmod ((xa.length : Int) + 1) = (k : Int)) (hkn : k < xa.length) :
    Calls Tryd.prog 8 #[.string s, .int .u16 which, .int .u8 n, .bool false] w fun e w' => e = .returned (.bool true) ∧ Below w.heap.size w w' := by
  obtain ⟨n, rfl⟩ : ∃ m : Nat, n = (m : Int) := ⟨n.toNat, by omega⟩
  have hls : s.data.toList.length = s.size := by simp
  have l1 := marks_len s.data.toList 0
  have p1 := marks_places s.data.toList 0 (by omega)
  rw [hx] at l1 p1
  rw [hls] at l1
  simp only at l1 p1
  have a1 := fun W h => all_cap s W (by omega) h _ hx
  obtain ⟨m, hm⟩ : ∃ m, xa[k]? = some m := ⟨xa[k], List.getElem?_eq_getElem hkn⟩
  have hstd := marks_stand s.data.toList 0 m (by rw [hx]; exact List.mem_of_getElem? hm)
  have hst2 := hstd.at2
  have hst3 := hstd.at3
  rw [hls] at hst3
  obtain ⟨j, hj, hjd⟩ : ∃ j, j ≤ s.size ∧ j = m.2.1 := ⟨m.2.1, by omega, rfl⟩
  have hmore := more_blanks s.data.toList 0 k j (List.replicate n 32) (by rw [hx]) (blank_reps 32 rfl n) (.inr ⟨m, by rw [hx]; exact hm, by omega⟩)
  rw [hx, List.length_replicate] at hmore
  simp only at hmore
  have hm3 := (congrArg (marks 0) (more_text s j n 32 hj)).trans hmore
  have a3 : ∀ W, Env W → Calls Tryd.prog 15 #[.string (s.extract 0 j ++ reps 32 n ++ s.extract j s.size)] W fun e w' => ∃ A c, e = .returned (.tuple #[.slice A xa.length c, .int .i64 0, .int .i64 0]) ∧ Msl w' A ((xa.map ofT).take k ++ ((xa.map ofT).drop k).map (shiftZ (n : Int))) ∧ Below W.heap.size W w' := by
    intro W h
    refine (all_rows (s.extract 0 j ++ reps 32 n ++ s.extract j s.size) W (by rw [ByteArray.size_append, ByteArray.size_append, reps_size, ByteArray.size_extract, ByteArray.size_extract]; omega) h _ hm3).mono ?_
    rintro e w' ⟨A, c, rfl, hA, hb⟩
    refine ⟨A, c, ?_, ?_, hb⟩
    · have : (xa.take k ++ (xa.drop k).map (shiftM n)).length = xa.length := by rw [List.length_append, List.length_map, ← List.length_append, List.take_append_drop]
      simp only [this]
      rfl
    · have e : (xa.map ofT).take k ++ ((xa.map ofT).drop k).map (shiftZ (n : Int)) = (xa.take k ++ (xa.drop k).map (shiftM n)).map ofT := by
        rw [List.map_append, List.map_take, List.map_map, ← List.map_drop, List.map_map]
        exact congrArg _ (List.map_congr_left fun m _ => shiftZ_of _ m)
      rw [e]
      exact hA
  have A1 := Lib.hid a1
  have A3 := Lib.hid a3
  have HK := Lib.hid hk
  have P1 := Lib.hid p1
  clear a1 a3 hm3 hmore hx hls hk p1
  go_enter Tryd.func8, Tryd.ntmps8
  go_wp2_with fail
  refine (awake_any _ hv).mono ?_
  rintro e w1 ⟨rfl, b1⟩
  go_wp2_with fail
  refine (A1.out _ (hv.step b1)).mono ?_
  rintro e w2 ⟨A, c, rfl, m1, hc, b2⟩
  have h2 := b1.trans (b2.mono b1.size)
  clear b1 b2
  have m1' := m1
  obtain ⟨g, o, rfl, hat⟩ := m1' (by intro e; rw [List.map_eq_nil_iff.1 e] at hkn; simp at hkn)
  have hget : (xa.map ofT)[k]? = some (ofT m) := by rw [List.getElem?_map, hm]; rfl
  obtain ⟨_, c1, _, _, _⟩ := hat.five hget
  simp only [ofT, ← hjd] at c1
  have HJ := Lib.hid hjd
  clear hm hget hstd hst2 hst3 hjd
  have hrem := HK.out
  have jj0 : (0 : Int) ≤ (j : Int) := by omega
  have jj1 : (j : Int) ≤ (s.size : Int) := by omega
  go_wp2_with fail
  go_quiet (fail)
  go_wp2_with fail
  go_loop [14, 15] (fun b i => ∃ q : Nat, q ≤ n ∧ i = .int .i64 q ∧ b = .string (reps 32 q)) (fun _ i => n - (intOf i).toNat)
  case atStart => exact ⟨0, Nat.zero_le _, rfl, rfl⟩
  case round =>
    obtain ⟨q, hq, rfl, rfl⟩ := hrel
    have hrs : (reps 32 q).size ≤ 255 := by rw [reps_size]; omega
    by_cases hlt : q < n
    · have HS := reps_succ 32 q
      go_wp2_with fail
      go_round
      case rel => exact ⟨q + 1, by omega, by go_num, rfl⟩
      case measure => simp [intOf]; omega
    · obtain rfl : q = n := by omega
      go_wp2_with fail
      go_region_with ((go_at_call 15; refine (A3.out _ ?_).mono ?_; exact (hv.step h2).q ⟨_, rfl⟩; rintro e w3 ⟨A3v, c3, rfl, m3, b3⟩))
      have mP : Msl w2 (some ⟨g, o, none⟩) ((xa.map ofT).take k) := m1.take k
      have mS : Msl w2 (some ⟨g, o + k * 5, none⟩) ((xa.map ofT).drop k) := m1.drop k
      have b3 : Below w2.heap.size w2 w3 := ⟨b3.os, b3.tape, b3.output, b3.size, b3.block⟩
      have h3 := h2.trans (b3.mono h2.size)
      have mPb := mP.below b3
      have mSb := mS.below b3
      clear mP mS b3 m1 jj0 jj1 hrem h2
      have k0 : (0 : Int) ≤ (k : Int) := by omega
      have k1 : (k : Int) ≤ (xa.length : Int) := by omega
      have k2 : (xa.length : Int) ≤ (c : Int) := by omega
      have k3 : (k : Int) ≤ (c : Int) := by omega
      have k4 : (c = k) = False := by simp; omega
      have LZ : (xa.map ofT).length = xa.length := by simp
      have pok : ∀ m ∈ (xa.map ofT).drop k, PlaceOk m := fun m hm => P1.out m (List.mem_of_mem_drop hm)
      skip
      generalize xa.map ofT = za at *
      have L3 : Hid ((za.take k ++ (za.drop k).map (shiftZ (q : Int))).length = xa.length) := by
        show _ = _
        rw [List.length_append, List.length_map, ← List.length_append, List.take_append_drop, LZ]
      have LP : Hid ((za.take k).length = k) := by show _ = _; rw [List.length_take, LZ]; omega
      have LS : Hid ((za.drop k).length = xa.length - k) := by show _ = _; rw [List.length_drop, LZ]
      have POK := Lib.hid pok
      clear LZ pok P1
      generalize za.take k = ZP at *
      generalize za.drop k = ZS at *
      have mr : Hid (ZP ++ ZS.map (shiftZ (q : Int)) = ZP ++ ZS.map (shiftZ (q : Int))) := rfl
      generalize hZ3 : ZP ++ ZS.map (shiftZ (q : Int)) = Z3 at m3 L3 mr
      have HZ3 := Lib.hid hZ3; clear hZ3
      have B3 : Z3.length ≤ 1048576 := by rw [L3.out]; omega
      have BP : ZP.length ≤ 1048576 := by rw [LP.out]; omega
      have BS : ZS.length ≤ 1048576 := by rw [LS.out]; omega
      have HB := Lib.hid (And.intro B3 (And.intro BP BS)); clear B3 BP BS
      obtain ⟨i0, hi, hz0, hz1, hz2⟩ := info_parts (P := Tryd.prog) (e := 28) (z := .agg #[.int .u8 0, .int .i64 0, .int .i64 0, .int .i64 0, .string ⟨#[]⟩]) (size := 5) (bytes := 48) (by kernel_rfl)
      have HU : Tryd.prog.underlying 32 = some (.slice 28) := by kernel_rfl
      have HI := Lib.hid (And.intro hi (And.intro hz0 (And.intro hz1 (And.intro hz2 HU))))
      clear hi hz0 hz1 hz2 HU
      skip
      all_goals
        go_wp2_with fail
        have hwq : IntKind.i64.wrap ((q : Nat) : Int) = ((q : Nat) : Int) := IntWalk.i64_in _ (by omega)
        go_region_held3 (fun _ => True) (trivial) (first
          | (go_at_call_of 17 (A3v)
             refine (told_n Z3 A3v _ c3 _ L3.out HB.out.1 ?_).mono ?_
             · exact m3.below ⟨rfl, rfl, rfl, Nat.le_refl _, fun _ _ => rfl⟩
             rintro e w5 ⟨v5, rfl, own5, b5⟩
             obtain ⟨A5, c5, rfl, m5⟩ := own_msl own5
             have b5' : Below w3.heap.size w3 w5 := ⟨b5.os, b5.tape, b5.output, b5.size, b5.block⟩
             have h5 := h3.trans (b5'.mono h3.size)
             have mPc := mPb.below b5'
             have mSc := mSb.below b5'
             clear own5 b5 b5')
          | (go_at_call 17
             refine (told_n ZP _ _ _ _ LP.out HB.out.2.1 ?_).mono ?_
             · exact mPc.below ⟨rfl, rfl, rfl, Nat.le_refl _, fun _ _ => rfl⟩
             rintro e w6 ⟨v6, rfl, own6, b6⟩
             have b6' : Below w5.heap.size w5 w6 := ⟨b6.os, b6.tape, b6.output, b6.size, b6.block⟩
             have mSd := mSc.below b6'
             have own6' : w6.ownsRow w5.heap.size 28 5 v6 ZP.length (cellsZ ZP) := own6
             clear b6 own6)
          | (go_at_call 22
             refine (moved_n ZS _ _ _ _ _ (by first | exact LS.out | (rw [LS.out]; omega)) HB.out.2.2 ?_ (by omega) (by omega) POK.out).mono ?_
             · exact mSd.below ⟨rfl, rfl, rfl, Nat.le_refl _, fun _ _ => rfl⟩
             rintro e w7 ⟨v7, rfl, own7, b7⟩
             have b7' : Below w6.heap.size w6 w7 := ⟨b7.os, b7.tape, b7.output, b7.size, b7.block⟩
             have own6b := own_below own6' b7'
             have hl7 : ZS.length = (ZS.map (shiftZ (q : Int))).length := by simp
             rw [hl7] at own7
             obtain ⟨A7, c7, rfl, m7⟩ := own_msl own7
             have hr7 := Reads.of_own own7
             rw [← hl7] at hr7 ⊢
             have hb7 := b6'.trans (b7'.mono b6'.size)
             clear b7 hl7 m7)
          | (refine step_append_wanted _ (by rfl) _ _ 32 (by rfl) w5.heap.size 28 i0 (.agg #[.int .u8 0, .int .i64 0, .int .i64 0, .int .i64 0, .string ⟨#[]⟩]) 5 48 HI.out.2.2.2.2 HI.out.1 HI.out.2.1 HI.out.2.2.1 HI.out.2.2.2.1 rfl (by decide) v6 _ _ (by rfl) own6b w7.heap.size A7 _ c7 _ (by rfl) hr7 (zCells_one _) ?_ ?_ ?_ ?_
             · have := HB.out; unfold maxLen; omega
             · have := HB.out; omega
             · exact hb7.size
             intro v8 w8 own8 hg8 _
             have own8' : w8.ownsRow w5.heap.size 28 5 v8 Z3.length (cellsZ Z3) := by
               rw [← HZ3.out, cellsZ_append, List.length_append, List.length_map]; exact own8
             obtain ⟨A8, c8, rfl, m8⟩ := own_msl own8'
             have b8 : Below w5.heap.size w5 w8 := Below.grown hb7 hg8 hb7.size (fun j hj => (own6b.lt _ hj).1)
             have m5b := m5.below b8
             have H8 := Lib.hid (And.intro (h5.trans (b8.mono h5.size)) (And.intro m5b m8))
             clear own8 own8' hg8 m8 m5b b8)
          | (go_at_call 16
             refine (same_n Z3 A5 A8 _ _ c5 c8 _ rfl rfl HB.out.1 ?_ ?_).mono ?_
             · exact H8.out.2.1.below ⟨rfl, rfl, rfl, Nat.le_refl _, fun _ _ => rfl⟩
             · exact H8.out.2.2.below ⟨rfl, rfl, rfl, Nat.le_refl _, fun _ _ => rfl⟩
             rintro e w9 ⟨rfl, b9⟩
             have b9' : Below w8.heap.size w8 w9 := ⟨b9.os, b9.tape, b9.output, b9.size, b9.block⟩
             clear b9))
        go_wp2_with fail
        go_ret
        exact ⟨rfl, H8.out.1.trans (b9'.mono H8.out.1.size)⟩

set_option maxRecDepth 100000 in
set_option maxHeartbeats 1000000 in
theorem blanks_any (s : ByteArray) (which n : Int) (line : Bool) (w : World) (hv : Env w) (hs : s.size ≤ 140737488351232) (hw : 0 ≤ which ∧ which ≤ 65535) (hn : 0 ≤ n ∧ n ≤ 255) :
    Calls Tryd.prog 8 #[.string s, .int .u16 which, .int .u8 n, .bool line] w fun e w' => e = .returned (.bool true) ∧ Below w.heap.size w w' := by
  by_cases h20 : 20000 < s.size
  · go_enter Tryd.func8, Tryd.ntmps8
    go_wp2_with fail
    refine (awake_any _ hv).mono ?_
    rintro e w1 ⟨rfl, hb⟩
    go_wp2_with fail
    go_ret
    exact ⟨rfl, hb⟩
  · obtain ⟨x, hx⟩ : ∃ x, marks 0 s.data.toList = x := ⟨_, rfl⟩
    obtain ⟨xa, xp, xe⟩ := x
    by_cases hxe : xe = 0
    · subst hxe
      have h0 : (marks 0 s.data.toList).2.1 = 0 := marks_ok (by rw [hx])
      rw [hx] at h0
      simp only at h0
      subst h0
      have t0 : 0 ≤ which.tmod ((xa.length : Int) + 1) := Int.tmod_nonneg _ hw.1
      have t1 : which.tmod ((xa.length : Int) + 1) < (xa.length : Int) + 1 := Int.tmod_lt_of_pos _ (by omega)
      obtain ⟨k, hk⟩ : ∃ k : Nat, which.tmod ((xa.length : Int) + 1) = (k : Int) := ⟨(which.tmod ((xa.length : Int) + 1)).toNat, by omega⟩
      rw [hk] at t1
      rcases (by omega : k < xa.length ∨ k = xa.length) with hkk | hkk
      · cases line
        · exact blanks_space_mid s which n w hv (by omega) hw.1 hw.2 hn.1 hn.2 xa hx k hk hkk
        · exact blanks_line_mid s which n w hv (by omega) hw.1 hw.2 hn.1 hn.2 xa hx k hk hkk
      · cases line
        · exact blanks_space_end s which n w hv (by omega) hw.1 hw.2 hn.1 hn.2 xa hx k hk hkk
        · exact blanks_line_end s which n w hv (by omega) hw.1 hw.2 hn.1 hn.2 xa hx k hk hkk
    · have a1 := fun W h => all_rows s W (by omega) h _ hx
      have A1 := Lib.hid a1
      clear a1 hx
      have hxe' : ((xe : Int) != 0) = true := bne_iff_ne.2 (by omega)
      go_enter Tryd.func8, Tryd.ntmps8
      go_wp2_with fail
      refine (awake_any _ hv).mono ?_
      rintro e w1 ⟨rfl, b1⟩
      go_wp2_with fail
      refine (A1.out _ (hv.step b1)).mono ?_
      rintro e w2 ⟨A, c, rfl, m1, b2⟩
      go_wp2_with fail
      go_ret
      exact ⟨rfl, b1.trans (b2.mono b1.size)⟩
end Go.Proofs.YtckmhbgpaiocbaaDoor
