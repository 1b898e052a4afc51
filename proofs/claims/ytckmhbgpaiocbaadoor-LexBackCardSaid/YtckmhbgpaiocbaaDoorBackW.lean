/- The walk of LexBack. -/
import Derived.Test.YtckmhbgpaiocbaaDoorLongW
namespace Go.Proofs.YtckmhbgpaiocbaaDoor
open Go.RowKit

theorem given_n (ms : List MarkZ) (A : Option Addr) (n c : Nat) (w : World) (hl : ms.length = n) (hn : ms.length ≤ 1048576) (hA : Msl w A ms) :
    Calls Tryd.prog 21 #[.slice A n c] w fun e w' => ∃ B d, e = .returned (.slice B n d) ∧ Msl w' B ms ∧ Below w.heap.size w w' := by
  subst hl
  refine (given_any ms A c w hn hA).mono ?_
  rintro e w' ⟨v, rfl, hown, hb⟩
  obtain ⟨B, d, rfl, hB⟩ := own_msl hown
  exact ⟨B, d, rfl, hB, hb⟩
theorem told_row (ms : List MarkZ) (A : Option Addr) (n c : Nat) (w : World) (hl : ms.length = n) (hn : ms.length ≤ 1048576) (hA : Msl w A ms) :
    Calls Tryd.prog 17 #[.slice A n c] w fun e w' => ∃ B d, e = .returned (.slice B n d) ∧ Msl w' B ms ∧ Below w.heap.size w w' := by
  subst hl
  refine (told_any ms A c w hn hA).mono ?_
  rintro e w' ⟨v, rfl, hown, hb⟩
  obtain ⟨B, d, rfl, hB⟩ := own_msl hown
  exact ⟨B, d, rfl, hB, hb⟩
theorem strip_n (ms ns : List MarkZ) (A B : Option Addr) (n m c d : Nat) (w : World) (hl : ms.length = n) (hm : ns.length = m) (hn : ms.length ≤ 1048576) (hA : Msl w A ms) (hB : Msl w B ns) (hs : ms.map stripZ = ns.map stripZ) :
    Calls Tryd.prog 16 #[.slice A n c, .slice B m d, .bool false] w fun e w' => e = .returned (.bool true) ∧ Below w.heap.size w w' := by
  have hlen : ms.length = ns.length := by have := congrArg List.length hs; simpa using this
  subst hl; subst hm
  rw [← hlen]
  exact same_strip ms ns A B c d w hn hA hB hs
theorem all_of (l : List UInt8) (w : World) (hs : l.length ≤ 65536) (hv : Env w) (x : List MarkT × Nat × Nat) (hx : lexAll l = x) :
    Calls Tryd.prog 15 #[.string (bs l)] w fun e w' => ∃ A c, e = .returned (.tuple #[.slice A x.1.length c, .int .i64 x.2.1, .int .i64 x.2.2]) ∧ Msl w' A (x.1.map ofT) ∧ Below w.heap.size w w' := by
  refine all_rows (bs l) w (by rw [bs_size]; exact hs) hv x ?_
  rw [bs_list, ← marks_lex l hs, hx]
theorem mark_of_stand {a : Nat} {r : List UInt8} (h : r.length ≤ 1048576) {m : MarkT} (hm : Stand a r m) : MarkOk (ofT m) := ⟨hm.n0, hm.n1, by have := hm.slen; show m.2.2.2.2.length ≤ _; omega⟩
theorem lexShow_err (k : Nat) (n : Int) (l : List UInt8) : (lexShow k n l).2 ≤ 3 := by
  unfold lexShow
  split
  · exact Nat.le_refl _
  · exact Nat.zero_le _
theorem joinGo_err : ∀ (ms : List MarkZ) (k : Nat) (acc : List UInt8), (joinGo k acc ms).2 ≤ 5
  | [], _, _ => by rw [joinGo]; split <;> simp
  | m :: r, k, acc => by
    rw [joinGo]
    split
    · have := lexShow_err m.1 m.2.2.2.1 m.2.2.2.2
      show (lexShow m.1 m.2.2.2.1 m.2.2.2.2).2 ≤ 5
      omega
    · exact joinGo_err r _ _

/-- The part behind the first question: All of a text, Join of it. -/
def BackTail (w : World) (e : Ending) (w' : World) : Prop := e = .returned (.bool true) ∧ Below w.heap.size w w'

set_option maxRecDepth 100000 in
set_option maxHeartbeats 2000000 in
theorem back_early (ms : List MarkZ) (A : Option Addr) (n c : Nat) (s : ByteArray) (w : World) (hv : Env w) (hl : ms.length = n) (hn : ms.length ≤ 140737488351232) (hA : Msl w A ms) (hs : ∀ m ∈ ms, m.2.2.2.2.length ≤ 140737488351232) (hsz : s.size ≤ 140737488351232)
    (h : 20000 ≤ longN 0 ms ∨ 20000 < s.size) :
    Calls Tryd.prog 6 #[.slice A n c, .string s] w fun e w' => e = .returned (.bool true) ∧ Below w.heap.size w w' := by
  by_cases hlong : 20000 ≤ longN 0 ms
  · have hL := fun W hA => long_n ms A n c W true hl hn hA hs (decide_eq_true hlong)
    have HL := Lib.hid hL
    clear hL hs hl
    go_enter Tryd.func6, Tryd.ntmps6
    go_wp2_with fail
    refine (HL.out _ hA).mono ?_
    rintro e w1 ⟨rfl, rfl⟩
    go_wp2_with fail
    refine (awake_any _ hv).mono ?_
    rintro e w1 ⟨rfl, hb⟩
    go_wp2_with fail
    go_ret
    exact ⟨rfl, hb⟩
  · have h20 : 20000 < s.size := by omega
    have hL := fun W hA => long_n ms A n c W false hl hn hA hs (decide_eq_false hlong)
    have HL := Lib.hid hL
    clear hL hs hl h hlong
    go_enter Tryd.func6, Tryd.ntmps6
    go_wp2_with fail
    refine (HL.out _ hA).mono ?_
    rintro e w1 ⟨rfl, rfl⟩
    go_wp2_with fail
    refine (awake_any _ hv).mono ?_
    rintro e w1 ⟨rfl, hb⟩
    go_wp2_with fail
    go_ret
    exact ⟨rfl, hb⟩
/-- What the second half of LexBack returns, from the call of All on. -/
theorem back_want (s : ByteArray) (hs : s.size ≤ 20000) (xa : List MarkT) (hx : marks 0 s.data.toList = (xa, 0, 0)) (k : Nat) (m : MarkT) (hm : xa[k]? = some m) :
    markShow (ofT m) = ((s.extract m.2.1 m.2.2.1).data.toList, 0) ∧ m.2.1 ≤ m.2.2.1 ∧ m.2.2.1 ≤ s.size := by
  have hl : s.data.toList.length = s.size := by simp
  have h := marks_stand s.data.toList 0 m (by rw [hx]; exact List.mem_of_getElem? hm)
  refine ⟨?_, Nat.le_of_lt h.at2, by have := h.at3; omega⟩
  rw [h.bytes, bs_extract, bs_list, Nat.sub_zero]
theorem want_step (zs : List MarkZ) (k : Nat) (m : MarkZ) (x : ByteArray) (hm : zs[k]? = some m) (hx : markShow m = (x.data.toList, 0)) :
    (k = 0 → bs (joinT (zs.take k)) ++ x = bs (joinT (zs.take (k + 1)))) ∧ (0 < k → bs (joinT (zs.take k)) ++ ⟨#[32]⟩ ++ x = bs (joinT (zs.take (k + 1)))) := by
  have hlt : k < zs.length := (List.getElem?_eq_some_iff.1 hm).1
  have hlen : (zs.take k).length = k := by rw [List.length_take]; omega
  have e := joinT_snoc (zs.take k) m
  rw [← take_snoc_z zs k m hm, hlen, hx] at e
  refine ⟨fun h0 => ?_, fun h0 => ?_⟩
  · rw [if_neg (by omega)] at e
    rw [e, ← bs_append, bs_of]
  · rw [if_pos h0] at e
    rw [e, ← bs_append, ← bs_append, bs_of]
    rfl
theorem tail_take (zs : List MarkZ) (k : Nat) : (joinT (zs.take k)).length ≤ (tailT zs).length := by
  have h : tailT zs = tailT (zs.take k) ++ tailT (zs.drop k) := by rw [← tailT_append, List.take_append_drop]
  unfold joinT
  rw [List.length_drop, h, List.length_append]
  omega
end Go.Proofs.YtckmhbgpaiocbaaDoor
