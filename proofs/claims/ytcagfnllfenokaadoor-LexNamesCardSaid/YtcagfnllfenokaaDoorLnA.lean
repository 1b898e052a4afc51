/- LexNames: what its calls tell, and what stands in memory. -/
import Derived.Test.YtcagfnllfenokaaDoorLexW7
import Derived.Test.YtcagfnllfenokaaDoorLnP
import Derived.Laws.BytesString
import Derived.Laws.BytesArg
import Derived.Laws.MakeOwn
namespace Go.Proofs.YtcagfnllfenokaaDoor
open Go.RowKit

def lnS (O : ByteArray) : Nat → ByteArray
  | 0 => ⟨#[]⟩
  | 1 => ⟨#[32, 10, 32]⟩
  | 2 => ⟨#[97, 49]⟩
  | 3 => ⟨#[40, 49, 97]⟩
  | 4 => ⟨#[32, 48, 48, 55]⟩
  | 5 => ⟨#[45, 48]⟩
  | 6 => ⟨#[45]⟩
  | 7 => ⟨#[45, 45, 49]⟩
  | 8 => ⟨#[97, 98, 32, 45]⟩
  | 9 => ⟨#[65]⟩
  | 10 => ⟨#[97, 9]⟩
  | 11 => ⟨#[9, 98]⟩
  | 12 => ⟨#[35, 50]⟩
  | 13 => ⟨#[35, 35]⟩
  | 14 => ⟨#[35, 49, 97]⟩
  | 15 => ⟨#[43, 49]⟩
  | 16 => ⟨#[49, 45]⟩
  | 17 => ⟨#[97, 35, 49]⟩
  | 18 => ⟨#[57, 50, 50, 51, 51, 55, 50, 48, 51, 54, 56, 53, 52, 55, 55, 53, 56, 48, 55]⟩
  | 19 => ⟨#[57, 50, 50, 51, 51, 55, 50, 48, 51, 54, 56, 53, 52, 55, 55, 53, 56, 48, 56]⟩
  | 20 => ⟨#[45, 57, 50, 50, 51, 51, 55, 50, 48, 51, 54, 56, 53, 52, 55, 55, 53, 56, 48, 56]⟩
  | 21 => ⟨#[45, 57, 50, 50, 51, 51, 55, 50, 48, 51, 54, 56, 53, 52, 55, 55, 53, 56, 48, 57]⟩
  | 22 => ((⟨#[35]⟩ : ByteArray) ++ O)
  | 23 => (((⟨#[97, 32, 35]⟩ : ByteArray) ++ O) ++ (⟨#[48]⟩ : ByteArray))
  | 24 => (((⟨#[35]⟩ : ByteArray) ++ O) ++ (⟨#[48, 50]⟩ : ByteArray))
  | 25 => ⟨#[195]⟩
  | 26 => ⟨#[49, 32, 57, 97, 32, 56, 98]⟩
  | 27 => ⟨#[60, 97, 62, 35, 91, 49, 93]⟩
  | _ => ⟨#[]⟩
def lnC (O : ByteArray) : Array Value := #[.string ⟨#[]⟩, .int .i64 0, .int .i64 0, .string ⟨#[32, 10, 32]⟩, .int .i64 0, .int .i64 0, .string ⟨#[97, 49]⟩, .int .i64 0, .int .i64 3, .string ⟨#[40, 49, 97]⟩, .int .i64 1, .int .i64 3, .string ⟨#[32, 48, 48, 55]⟩, .int .i64 1, .int .i64 3, .string ⟨#[45, 48]⟩, .int .i64 0, .int .i64 3, .string ⟨#[45]⟩, .int .i64 0, .int .i64 3, .string ⟨#[45, 45, 49]⟩, .int .i64 0, .int .i64 3, .string ⟨#[97, 98, 32, 45]⟩, .int .i64 3, .int .i64 3, .string ⟨#[65]⟩, .int .i64 0, .int .i64 3, .string ⟨#[97, 9]⟩, .int .i64 0, .int .i64 3, .string ⟨#[9, 98]⟩, .int .i64 0, .int .i64 3, .string ⟨#[35, 50]⟩, .int .i64 0, .int .i64 3, .string ⟨#[35, 35]⟩, .int .i64 0, .int .i64 3, .string ⟨#[35, 49, 97]⟩, .int .i64 0, .int .i64 3, .string ⟨#[43, 49]⟩, .int .i64 0, .int .i64 3, .string ⟨#[49, 45]⟩, .int .i64 0, .int .i64 3, .string ⟨#[97, 35, 49]⟩, .int .i64 0, .int .i64 3, .string ⟨#[57, 50, 50, 51, 51, 55, 50, 48, 51, 54, 56, 53, 52, 55, 55, 53, 56, 48, 55]⟩, .int .i64 0, .int .i64 0, .string ⟨#[57, 50, 50, 51, 51, 55, 50, 48, 51, 54, 56, 53, 52, 55, 55, 53, 56, 48, 56]⟩, .int .i64 0, .int .i64 5, .string ⟨#[45, 57, 50, 50, 51, 51, 55, 50, 48, 51, 54, 56, 53, 52, 55, 55, 53, 56, 48, 56]⟩, .int .i64 0, .int .i64 0, .string ⟨#[45, 57, 50, 50, 51, 51, 55, 50, 48, 51, 54, 56, 53, 52, 55, 55, 53, 56, 48, 57]⟩, .int .i64 0, .int .i64 5, .string ((⟨#[35]⟩ : ByteArray) ++ O), .int .i64 0, .int .i64 0, .string (((⟨#[97, 32, 35]⟩ : ByteArray) ++ O) ++ (⟨#[48]⟩ : ByteArray)), .int .i64 2, .int .i64 5, .string (((⟨#[35]⟩ : ByteArray) ++ O) ++ (⟨#[48, 50]⟩ : ByteArray)), .int .i64 0, .int .i64 3, .string ⟨#[195]⟩, .int .i64 0, .int .i64 3, .string ⟨#[49, 32, 57, 97, 32, 56, 98]⟩, .int .i64 2, .int .i64 3, .string ⟨#[60, 97, 62, 35, 91, 49, 93]⟩, .int .i64 0, .int .i64 0]
theorem lnC_at (O : ByteArray) : ∀ k, k < 28 → (lnC O)[k * 3]? = some (.string (lnS O k)) ∧ (lnC O)[k * 3 + 1]? = some (.int .i64 (lnP k)) ∧ (lnC O)[k * 3 + 2]? = some (.int .i64 (lnE k))
  | 0, _ => ⟨rfl, rfl, rfl⟩
  | 1, _ => ⟨rfl, rfl, rfl⟩
  | 2, _ => ⟨rfl, rfl, rfl⟩
  | 3, _ => ⟨rfl, rfl, rfl⟩
  | 4, _ => ⟨rfl, rfl, rfl⟩
  | 5, _ => ⟨rfl, rfl, rfl⟩
  | 6, _ => ⟨rfl, rfl, rfl⟩
  | 7, _ => ⟨rfl, rfl, rfl⟩
  | 8, _ => ⟨rfl, rfl, rfl⟩
  | 9, _ => ⟨rfl, rfl, rfl⟩
  | 10, _ => ⟨rfl, rfl, rfl⟩
  | 11, _ => ⟨rfl, rfl, rfl⟩
  | 12, _ => ⟨rfl, rfl, rfl⟩
  | 13, _ => ⟨rfl, rfl, rfl⟩
  | 14, _ => ⟨rfl, rfl, rfl⟩
  | 15, _ => ⟨rfl, rfl, rfl⟩
  | 16, _ => ⟨rfl, rfl, rfl⟩
  | 17, _ => ⟨rfl, rfl, rfl⟩
  | 18, _ => ⟨rfl, rfl, rfl⟩
  | 19, _ => ⟨rfl, rfl, rfl⟩
  | 20, _ => ⟨rfl, rfl, rfl⟩
  | 21, _ => ⟨rfl, rfl, rfl⟩
  | 22, _ => ⟨rfl, rfl, rfl⟩
  | 23, _ => ⟨rfl, rfl, rfl⟩
  | 24, _ => ⟨rfl, rfl, rfl⟩
  | 25, _ => ⟨rfl, rfl, rfl⟩
  | 26, _ => ⟨rfl, rfl, rfl⟩
  | 27, _ => ⟨rfl, rfl, rfl⟩
  | i + 28, h => absurd h (by omega)
theorem cat_lst (a b : ByteArray) : (a ++ b).data.toList = a.data.toList ++ b.data.toList := by simp
theorem lnS_list {O : ByteArray} (hO : O = bs (List.replicate 1024 49)) : ∀ k, k < 28 → (lnS O k).data.toList = lnL k
  | 0, _ => rfl
  | 1, _ => rfl
  | 2, _ => rfl
  | 3, _ => rfl
  | 4, _ => rfl
  | 5, _ => rfl
  | 6, _ => rfl
  | 7, _ => rfl
  | 8, _ => rfl
  | 9, _ => rfl
  | 10, _ => rfl
  | 11, _ => rfl
  | 12, _ => rfl
  | 13, _ => rfl
  | 14, _ => rfl
  | 15, _ => rfl
  | 16, _ => rfl
  | 17, _ => rfl
  | 18, _ => rfl
  | 19, _ => rfl
  | 20, _ => rfl
  | 21, _ => rfl
  | 22, _ => by subst hO; show ((⟨#[35]⟩ : ByteArray) ++ bs (List.replicate 1024 49)).data.toList = lnL 22; simp only [cat_lst, bs_list]; rfl
  | 23, _ => by subst hO; show (((⟨#[97, 32, 35]⟩ : ByteArray) ++ bs (List.replicate 1024 49)) ++ (⟨#[48]⟩ : ByteArray)).data.toList = lnL 23; simp only [cat_lst, bs_list]; rfl
  | 24, _ => by subst hO; show (((⟨#[35]⟩ : ByteArray) ++ bs (List.replicate 1024 49)) ++ (⟨#[48, 50]⟩ : ByteArray)).data.toList = lnL 24; simp only [cat_lst, bs_list]; rfl
  | 25, _ => rfl
  | 26, _ => rfl
  | 27, _ => rfl
  | i + 28, h => absurd h (by omega)
theorem all_ln {O : ByteArray} (hO : O = bs (List.replicate 1024 49)) (k : Nat) (hk : k < 28) (W : World) (hv : Env W) : Calls Tryd.prog 5 #[.string (lnS O k)] W fun e w' => ∃ v, e = .returned (.tuple #[v, .int .i64 (lnP k), .int .i64 (lnE k)]) ∧ Below W.heap.size W w' := by
  obtain ⟨h1, h2⟩ := ln_all k hk
  have hl := lnS_list hO k hk
  have hs : (lnS O k).size ≤ 65536 := by
    have : (lnS O k).data.toList.length = (lnS O k).size := by simp
    rw [← this, hl]; omega
  have h := all_any (lnS O k) W hs hv
  rw [hl] at h
  obtain ⟨p1, p2⟩ := Prod.mk.inj h1
  refine h.mono fun e w' hx => ?_
  obtain ⟨v, q1, _, q3⟩ := hx
  refine ⟨v, ?_, q3⟩
  rw [q1, p1, p2]
theorem all_a (W : World) (hv : Env W) : Calls Tryd.prog 5 #[.string ⟨#[40, 41, 91, 93, 60, 62, 97, 98, 45, 49, 35, 48, 49]⟩] W fun e w' => ∃ A c, e = .returned (.tuple #[.slice A 0 c, .int .i64 6, .int .i64 3]) ∧ Below W.heap.size W w' := by
  refine (all_lit _ _ (by decide) la1 W hv).mono fun e w' hx => ?_
  obtain ⟨v, q1, q2, q3⟩ := hx
  rcases q2.2 with ⟨rfl, _⟩ | ⟨g', cap, cur, rfl, _⟩
  · exact ⟨none, 0, q1, q3⟩
  · exact ⟨_, cap, q1, q3⟩
def lnM : List MarkZ := [(1, 0, 1, 0, []), (2, 1, 2, 0, []), (3, 2, 3, 0, []), (4, 3, 4, 0, []), (5, 4, 5, 0, []), (6, 5, 6, 0, []), (7, 6, 8, 0, [97, 98]), (1, 8, 9, 0, []), (8, 9, 11, -1, []), (2, 11, 12, 0, []), (9, 12, 15, 0, [48, 49])]
theorem all_b (W : World) (hv : Env W) : Calls Tryd.prog 5 #[.string ⟨#[40, 41, 91, 93, 60, 62, 97, 98, 40, 45, 49, 41, 35, 48, 49, 10]⟩] W fun e w' => ∃ g c, e = .returned (.tuple #[.slice (some ⟨g, 0, none⟩) 11 c, .int .i64 0, .int .i64 0]) ∧ Below W.heap.size W w' ∧ MarksAt w' g 0 lnM := by
  refine (all_lit _ _ (by decide) la2 W hv).mono fun e w' hx => ?_
  obtain ⟨v, q1, hown, q3⟩ := hx
  obtain ⟨g, cap, rfl, hg⟩ := hown.form (by decide)
  have hcells := hown.cells (g := g) rfl
  refine ⟨g, cap, q1, q3, ⟨fun _ => hg.2, fun j u hj => ?_⟩⟩
  have h1 := hcells j u (by rw [← cellsZ_of]; exact hj)
  by_cases h0 : j = 0
  · subst h0; simpa [Addr.add] using h1
  · simpa [Addr.add, h0] using h1
set_option maxRecDepth 100000 in
set_option maxHeartbeats 1000000 in
theorem all_far (s : ByteArray) (w : World) (hs : 65536 < s.size) (hmax : s.size ≤ maxLen) :
    Calls Tryd.prog 5 #[.string s] w fun e w' => e = .returned (.tuple #[.slice none 0 0, .int .i64 0, .int .i64 5]) ∧ w = w' := by
  unfold maxLen at hmax
  go_enter Tryd.func5, Tryd.ntmps5
  go_wp2_with fail
  refine bodyPost_ret (v := .tuple #[.slice none 0 0, .int .i64 0, .int .i64 5]) (by simp [results, Tryd.results5, go_sem]) rfl ⟨rfl, rfl⟩
/-- Memory that is made, its cells by a letter. -/
theorem wpList_make_cells {P : Program} (w : World) {ops : Array Oper} {rest : List Oper} {o : Oper} {a : Act} {Q : Exit → Act → World → Prop}
    (hg : o.guard = none) (l c : Operand) (t : TypeId) (hop : o.op = Op.makeSlice t l c)
    (e : TypeId) (i : TypeInfo) (z : Value) (size : Nat) (h1 : P.underlying t = some (.slice e)) (h2 : P.info? e = some i) (h3 : i.zero = some z) (h4 : i.size = size)
    (L C : Int) (n : Nat) (hl : a.eval l = .int .i64 L) (hc : a.eval c = .int .i64 C) (hL : L = (n : Int)) (hC : C = (n : Int)) (b2 : (i.bytes : Int) * n ≤ 281474976710656) (b3 : (n : Int) ≤ 9223372036854775807) (cs : Array Value) (hcs : madeCells z.cells (n * size) = cs)
    (hK : wpList P ops Q rest (a.put o.dst (.slice (some ⟨w.heap.size, 0, none⟩) n n)) (w.alloc (.cells cs e))) :
    wpList P ops Q (o :: rest) a w := by
  refine wpList_plain hg fun K hK' => ?_
  have hrun := run_make (P := P) w t e i z h1 h2 h3 .i64 .i64 n n (by omega) (Int.le_refl _) b2 b3
  simp only [Int.toNat_natCast, h4, hcs] at hrun
  subst hL
  subst hC
  unfold Oper.wp
  simp [execOp, hop, hl, hc, hrun, Result.andThen]
  exact hK' _ _ hK
theorem made_cell (n j : Nat) (h : j < n) : (madeCells #[Value.int .u8 0] n)[j]? = some (.int .u8 0) := by
  have := toList_madeCells_one (.int .u8 0) n
  rw [← Array.getElem?_toList, this, List.getElem?_replicate, if_pos h]
theorem nums_bs (l : List UInt8) : strOfNums (l.map fun x => (x.toNat : Int)) = bs l := by
  apply ByteArray.ext
  apply Array.toList_inj.1
  rw [strOfNums_data, bs_list, List.map_map]
  conv => rhs; rw [← List.map_id l]
  apply List.map_congr_left
  intro x _
  simp
theorem conv_zeros (n g : Nat) (W : World) (h : Blk W g 5 (madeCells #[.int .u8 0] n)) : (Go.convert 31 9 (.slice (some ⟨g, 0, none⟩) n n)).run Tryd.prog W = .ok (.string (bs (List.replicate n 0))) W := by
  have e : strOfNums (List.replicate n (0 : Int)) = bs (List.replicate n 0) := by rw [← nums_bs, List.map_replicate]; rfl
  rw [← e]
  refine run_convert_bytes_arg W _ 5 Tryd.underlying31 Tryd.underlying5 g 0 n n (List.replicate n 0) (by simp) (fun i hi => ?_) 9 Tryd.underlying9
  have hc := h.cell i
  rw [made_cell n i hi] at hc
  rw [Nat.zero_add, hc]
  simp [List.getD, hi]
/-- So many marks are brackets, the others nothing. -/
structure Many (k : Nat) (cs : Array Value) : Prop where
  sz : cs.size = 163845
  at_ : ∀ q, q < 32769 → cs[q * 5]? = some (.int .u8 (if q < k then 1 else 0)) ∧ cs[q * 5 + 1]? = some (.int .i64 0) ∧ cs[q * 5 + 2]? = some (.int .i64 0) ∧ cs[q * 5 + 3]? = some (.int .i64 0) ∧ cs[q * 5 + 4]? = some (.string ⟨#[]⟩)
theorem Many.start : Many 0 (madeCells #[.int .u8 0, .int .i64 0, .int .i64 0, .int .i64 0, .string ⟨#[]⟩] 163845) where
  sz := size_madeCells _ _
  at_ := fun q hq => by
    have e : ∀ j, j < 163845 → (madeCells #[.int .u8 0, .int .i64 0, .int .i64 0, .int .i64 0, .string ⟨#[]⟩] 163845)[j]? = some ((#[.int .u8 0, .int .i64 0, .int .i64 0, .int .i64 0, .string ⟨#[]⟩] : Array Value)[j % 5]!) := fun j hj => by
      unfold madeCells
      rw [Array.getElem?_map, Array.getElem?_range, if_pos hj]
      rfl
    rw [e _ (by omega), e _ (by omega), e _ (by omega), e _ (by omega), e _ (by omega)]
    rw [show q * 5 % 5 = 0 by omega, show (q * 5 + 1) % 5 = 1 by omega, show (q * 5 + 2) % 5 = 2 by omega, show (q * 5 + 3) % 5 = 3 by omega, show (q * 5 + 4) % 5 = 4 by omega, if_neg (by omega)]
    exact ⟨rfl, rfl, rfl, rfl, rfl⟩
theorem Many.step {k : Nat} {cs : Array Value} (h : Many k cs) (hk : k < 32769) : Many (k + 1) (cs.setIfInBounds (k * 5) (.int .u8 1)) where
  sz := by rw [Array.size_setIfInBounds]; exact h.sz
  at_ := fun q hq => by
    obtain ⟨h0, h1, h2, h3, h4⟩ := h.at_ q hq
    have hs := h.sz
    have ne : ∀ j, k * 5 ≠ j → (cs.setIfInBounds (k * 5) (.int .u8 1))[j]? = cs[j]? := fun j hj => by rw [Array.getElem?_setIfInBounds, if_neg hj]
    rw [ne (q * 5 + 1) (by omega), ne (q * 5 + 2) (by omega), ne (q * 5 + 3) (by omega), ne (q * 5 + 4) (by omega)]
    refine ⟨?_, h1, h2, h3, h4⟩
    by_cases e : k = q
    · subst e
      rw [Array.getElem?_setIfInBounds, if_pos rfl, if_pos (by omega), if_pos (by omega)]
    · rw [ne (q * 5) (by omega), h0]
      by_cases e2 : q < k
      · rw [if_pos e2, if_pos (by omega)]
      · rw [if_neg e2, if_neg (by omega)]
theorem cells_rep : ∀ (n : Nat) (j : Nat) (u : Value), (cellsZ (List.replicate n brM))[j]? = some u → j < n * 5 ∧ u = (#[.int .u8 1, .int .i64 0, .int .i64 0, .int .i64 0, .string ⟨#[]⟩] : Array Value)[j % 5]!
  | 0, j, u, h => by simp [cellsZ] at h
  | n + 1, j, u, h => by
    have e : cellsZ (List.replicate (n + 1) brM) = zCells brM ++ cellsZ (List.replicate n brM) := by rw [List.replicate_succ]; rfl
    rw [e] at h
    have hl : (zCells brM).length = 5 := rfl
    by_cases h5 : j < 5
    · rw [List.getElem?_append_left (by rw [hl]; exact h5)] at h
      refine ⟨by omega, ?_⟩
      match j, h5, h with
      | 0, _, h => cases h; rfl
      | 1, _, h => cases h; rfl
      | 2, _, h => cases h; rfl
      | 3, _, h => cases h; rfl
      | 4, _, h => cases h; rfl
    · rw [List.getElem?_append_right (by rw [hl]; omega), hl] at h
      obtain ⟨h1, h2⟩ := cells_rep n (j - 5) u h
      refine ⟨by omega, ?_⟩
      rw [h2, show (j - 5) % 5 = j % 5 by omega]
theorem many_marks {w : World} {g : Nat} {cs : Array Value} (hb : Blk w g 30 cs) (h : Many 32769 cs) (n o : Nat) (hno : n + o ≤ 32769) : MarksAt w g (o * 5) (List.replicate n brM) where
  lt := fun _ => hb.lt
  cells := fun j u hj => by
    obtain ⟨h1, h2⟩ := cells_rep n j u hj
    rw [hb.cell]
    have hd : o * 5 + j = (o + j / 5) * 5 + j % 5 := by omega
    obtain ⟨a0, a1, a2, a3, a4⟩ := h.at_ (o + j / 5) (by omega)
    rw [if_pos (by omega)] at a0
    rw [hd, h2]
    have hr : j % 5 < 5 := Nat.mod_lt _ (by decide)
    generalize j % 5 = r at *
    match r, hr with
    | 0, _ => exact a0
    | 1, _ => exact a1
    | 2, _ => exact a2
    | 3, _ => exact a3
    | 4, _ => exact a4
theorem brM_ok (n : Nat) : ∀ m ∈ List.replicate n brM, MarkOk m := fun m hm => by
  rw [List.eq_of_mem_replicate hm]; exact ⟨by decide, by decide, by decide⟩
theorem join_f {w : World} {g : Nat} {cs : Array Value} (hb : Blk w g 30 cs) (h : Many 32769 cs) (hv : Env w) : Calls Tryd.prog 7 #[.slice (some ⟨g, 0, none⟩) 32769 32769] w fun e w' => e = .returned (.tuple #[.string ⟨#[]⟩, .int .i64 5]) ∧ Below w.heap.size w w' := by
  have hm := join_any (List.replicate 32769 brM) g 0 32769 w (by rw [List.length_replicate]; decide) (many_marks hb h 32769 0 (by decide)) (brM_ok _) hv
  rw [join_far, List.length_replicate] at hm
  exact hm
theorem join_t : ∃ t : ByteArray, t.size = 65535 ∧ ∀ (w : World) (g : Nat) (cs : Array Value), Blk w g 30 cs → Many 32769 cs → Env w → Calls Tryd.prog 7 #[.slice (some ⟨g, 5, none⟩) 32768 32768] w fun e w' => e = .returned (.tuple #[.string t, .int .i64 0]) ∧ Below w.heap.size w w' := by
  obtain ⟨t, ht, hj⟩ := join_near
  refine ⟨bs t, by rw [bs_size]; exact ht, fun w g cs hb h hv => ?_⟩
  have hm := join_any (List.replicate 32768 brM) g 5 32768 w (by rw [List.length_replicate]; decide) (many_marks hb h 32768 1 (by decide)) (brM_ok _) hv
  rw [hj, List.length_replicate] at hm
  exact hm
theorem show_stop (w : World) (hv : Env w) : Calls Tryd.prog 8 #[.agg #[.int .u8 10, .int .i64 0, .int .i64 0, .int .i64 0, .string ⟨#[]⟩]] w fun e w' => e = .returned (.tuple #[.string ⟨#[]⟩, .int .i64 3]) ∧ Below w.heap.size w w' := by
  have h := show_any 10 0 0 0 [] w (by decide) (by decide) (by decide) hv
  unfold ShowAt at h
  rw [lsh1] at h
  exact h
theorem show_num1 (w : World) (hv : Env w) : Calls Tryd.prog 8 #[.agg #[.int .u8 8, .int .i64 0, .int .i64 0, .int .i64 1, .string ⟨#[49]⟩]] w fun e w' => e = .returned (.tuple #[.string ⟨#[]⟩, .int .i64 3]) ∧ Below w.heap.size w w' := by
  have h := show_any 8 0 0 1 [49] w (by decide) (by decide) (by decide) hv
  unfold ShowAt at h
  rw [lsh2] at h
  exact h
structure Ln (w W : World) : Prop where
  e : Env W
  b : Below w.heap.size w W
theorem Ln.held {w W W' : World} (h : Ln w W) (hb : Below W.heap.size W W') : Ln w W' := ⟨h.e.step hb, h.b.trans (hb.mono h.b.size)⟩
structure LnS (w W : World) (g : Nat) : Prop where
  l : Ln w W
  m : MarksAt W g 0 lnM
theorem LnS.held {w W W' : World} {g : Nat} (h : LnS w W g) (hb : Below W.heap.size W W') : LnS w W' g := ⟨h.l.held hb, h.m.below hb (Nat.le_refl _)⟩
theorem LnS.alloc {w W : World} {g : Nat} (h : LnS w W g) (o : Obj) : LnS w (W.alloc o) g := h.held ((Below.refl _ _).alloc (Nat.le_refl _) o)
abbrev mB (W : World) (g : Nat) : Prop := Blk W g 30 #[.int .u8 7, .int .i64 1, .int .i64 2, .int .i64 0, .string ⟨#[98]⟩]
abbrev nB (W : World) (g : Nat) : Prop := Blk W g 30 #[.int .u8 10, .int .i64 2, .int .i64 2, .int .i64 0, .string ⟨#[]⟩]
structure LnT (w W : World) (g gm gn : Nat) : Prop where
  s : LnS w W g
  km : mB W gm
  kn : nB W gn
theorem LnT.held {w W W' : World} {g gm gn : Nat} (h : LnT w W g gm gn) (hb : Below W.heap.size W W') : LnT w W' g gm gn := ⟨h.s.held hb, h.km.below hb h.km.lt, h.kn.below hb h.kn.lt⟩
theorem LnT.alloc {w W : World} {g gm gn : Nat} (h : LnT w W g gm gn) (o : Obj) : LnT w (W.alloc o) g gm gn := h.held ((Below.refl _ _).alloc (Nat.le_refl _) o)
theorem LnS.cells {w W : World} {g : Nat} (h : LnS w W g) : W.cell? ⟨g, 34, none⟩ = some (.string ⟨#[97, 98]⟩) ∧ W.cell? ⟨g, 43, none⟩ = some (.int .i64 (-1)) ∧ W.cell? ⟨g, 54, none⟩ = some (.string ⟨#[48, 49]⟩) := ⟨h.m.cells 34 _ rfl, h.m.cells 43 _ rfl, h.m.cells 54 _ rfl⟩
theorem next_a (W : World) (hv : Env W) : Calls Tryd.prog 6 #[.string ⟨#[97, 98]⟩, .int .i64 1] W fun e w' => e = .returned (.tuple #[.agg #[.int .u8 7, .int .i64 1, .int .i64 2, .int .i64 0, .string ⟨#[98]⟩], .int .i64 0, .int .i64 0]) ∧ Below W.heap.size W w' := next_lit _ _ _ (by decide) lx1 W hv
theorem next_b (W : World) (hv : Env W) : Calls Tryd.prog 6 #[.string ⟨#[97, 98]⟩, .int .i64 2] W fun e w' => e = .returned (.tuple #[.agg #[.int .u8 10, .int .i64 2, .int .i64 2, .int .i64 0, .string ⟨#[]⟩], .int .i64 0, .int .i64 0]) ∧ Below W.heap.size W w' := next_lit _ _ _ (by decide) lx2 W hv
theorem next_c (W : World) (hv : Env W) : Calls Tryd.prog 6 #[.string ⟨#[97, 98]⟩, .int .i64 3] W fun e w' => e = .returned (.tuple #[.agg #[.int .u8 0, .int .i64 0, .int .i64 0, .int .i64 0, .string ⟨#[]⟩], .int .i64 0, .int .i64 1]) ∧ Below W.heap.size W w' := next_lit _ _ _ (by decide) lx3 W hv
theorem next_d (W : World) (hv : Env W) : Calls Tryd.prog 6 #[.string ⟨#[97, 98]⟩, .int .i64 (-1)] W fun e w' => e = .returned (.tuple #[.agg #[.int .u8 0, .int .i64 0, .int .i64 0, .int .i64 0, .string ⟨#[]⟩], .int .i64 0, .int .i64 1]) ∧ Below W.heap.size W w' := next_lit _ _ _ (by decide) lx4 W hv
abbrev zM : Obj := .cells #[.int .u8 0, .int .i64 0, .int .i64 0, .int .i64 0, .string ⟨#[]⟩] 30
end Go.Proofs.YtcagfnllfenokaaDoor
