/- The walk of LexNexts. -/
import Derived.Test.YtckmhbgpaiocbaaDoorRefZ
import Derived.Test.YtckmhbgpaiocbaaDoorLexW7
namespace Go.Proofs.YtckmhbgpaiocbaaDoor
open Go.RowKit

set_option maxRecDepth 100000 in
set_option maxHeartbeats 1000000 in
theorem nexts_any (s : ByteArray) (i : Int) (w : World) (hv : Env w) (hmax : s.size ≤ maxLen) :
    Calls Tryd.prog 3 #[.string s, .int .i64 i] w fun e w' => e = .returned (.bool true) ∧ Below w.heap.size w w' := by
  unfold maxLen at hmax
  by_cases h20 : 20000 < s.size
  · go_enter Tryd.func3, Tryd.ntmps3
    go_wp2_with fail
    refine (awake_any _ hv).mono ?_
    rintro e w1 ⟨rfl, hb⟩
    go_wp2_with fail
    go_ret
    exact ⟨rfl, hb⟩
  · have hN := fun W h => next_any s i W (by omega) h
    have hR := fun W => rnext_any s i W (by omega)
    generalize lexNext s.data.toList i = x at *
    obtain ⟨⟨kk, a, e, n, l⟩, pl, er⟩ := x
    have HN : Hid (∀ W, Env W → Calls Tryd.prog 12 #[.string s, .int .i64 i] W fun e' w' => e' = .returned (.tuple #[.agg #[.int .u8 kk, .int .i64 a, .int .i64 e, .int .i64 n, .string (bs l)], .int .i64 pl, .int .i64 er]) ∧ Below W.heap.size W w') := hN
    have HR : Hid (∀ W, Calls Tryd.prog 13 #[.string s, .int .i64 i] W fun e' w' => e' = .returned (.tuple #[.agg #[.int .u8 kk, .int .i64 a, .int .i64 e, .int .i64 n, .string (bs l)], .int .i64 pl, .int .i64 er]) ∧ Below W.heap.size W w') := hR
    clear hN hR
    go_enter Tryd.func3, Tryd.ntmps3
    go_wp2_with fail
    refine (HN.out _ hv).mono ?_
    rintro e' w1 ⟨rfl, hb1⟩
    have hm1 := Blk.new w1 24 #[.int .u8 kk, .int .i64 a, .int .i64 e, .int .i64 n, .string (bs l)]
    have hx1 := hb1.alloc hb1.size (.cells #[.int .u8 kk, .int .i64 a, .int .i64 e, .int .i64 n, .string (bs l)] 24)
    go_wp2_with fail
    refine (HR.out _).mono ?_
    rintro e' w2 ⟨rfl, hb2⟩
    have hx2 := hx1.trans (hb2.mono hx1.size)
    have hm2 := hm1.below hb2 (by simp)
    have hl2 := hm2.lt
    have hm3 := hm2.alloc (.cells #[.int .u8 kk, .int .i64 a, .int .i64 e, .int .i64 n, .string (bs l)] 28)
    have hn3 := Blk.new w2 28 #[.int .u8 kk, .int .i64 a, .int .i64 e, .int .i64 n, .string (bs l)]
    have hx3 := hx2.alloc hx2.size (.cells #[.int .u8 kk, .int .i64 a, .int .i64 e, .int .i64 n, .string (bs l)] 28)
    clear hb1 hx1 hb2 hx2 hm1 hm2
    obtain ⟨⟨c0, c1, c2, c3, c4⟩, _⟩ := hm3.five
    obtain ⟨⟨d0, d1, d2, d3, d4⟩, _⟩ := hn3.five
    have HX := Lib.hid hx3; clear hx3 hm3 hn3
    go_wp2_with fail
    refine (awake_any _ (hv.step HX.out)).mono ?_
    rintro e' w4 ⟨rfl, hb4⟩
    have HF := Lib.hid (HX.out.trans (hb4.mono HX.out.size)); clear hb4
    go_wp2_with fail
    go_ret
    exact ⟨rfl, HF.out⟩
end Go.Proofs.YtckmhbgpaiocbaaDoor
