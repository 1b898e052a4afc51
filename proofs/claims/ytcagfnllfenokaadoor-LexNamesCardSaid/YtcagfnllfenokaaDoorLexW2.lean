/- The walks of lex.end and lex.Next. -/
import Derived.Test.YtcagfnllfenokaaDoorLexW1
import Derived.Test.YtcagfnllfenokaaDoorLexN
import Derived.Test.YtcagfnllfenokaaDoorIdx2
import Derived.Test.YtcagfnllfenokaaDoorShelf
import Derived.Shelf.Strings.SlTrimAscii
namespace Go.Proofs.YtcagfnllfenokaaDoor
open Go.RowKit

theorem ascii_of {cs : List UInt8} (h : ∀ b ∈ cs, b.toNat < 128) : ∀ (j : Nat) b, cs[j]? = some b → b.toNat < 128 := fun _ b hj => h b (List.mem_of_getElem? hj)

theorem index_any (s : ByteArray) (w : World) (hs : s.size < 4294967281) :
    Calls Tryd.prog 22 #[.string s, .string stops] w fun e w' => e = .returned (.int .i64 (Lib.indexAny s.data.toList stops.data.toList)) ∧ Below w.heap.size w w' := by
  by_cases h8 : s.size ≤ 8
  · exact index_short s w h8
  · obtain ⟨h1, _⟩ := zero_of_info (P := Tryd.prog) (t := 54) (n := 256) (v := .agg (Array.replicate 256 (.bool false))) (by kernel_rfl)
    refine (Tryd.strings_IndexAny_long h1 s stops w (by decide) (by omega) hs (by decide) (ascii_of (by decide))).mono ?_
    rintro e w' ⟨rfl, rfl⟩
    exact ⟨rfl, ((Below.refl _ _).alloc (Nat.le_refl _) _).alloc (by simp) _⟩

theorem trim_any (s : ByteArray) (w : World) :
    Calls Tryd.prog 9 #[.string s, .string ⟨#[32, 10]⟩] w fun e w' => e = .returned (.string (s.extract (skipN s.data.toList) s.size)) ∧ Below w.heap.size w w' := by
  have h := Any.strings_TrimLeft_laid Tryd.lays161 (by kernel_rfl) s ⟨#[32, 10]⟩ w (by decide) (ascii_of (by decide))
  have e : s.extract (skipN s.data.toList) s.size = ⟨(Lib.trimLeftS s.data.toList (⟨#[32, 10]⟩ : ByteArray).data.toList).toArray⟩ := by
    rw [bs_extract, List.take_of_length_le (by simp)]
    show bs _ = bs _
    rw [← trimLeft_skip]
  rw [e]
  exact h

theorem drop_size (s : ByteArray) (a : Nat) (h : a ≤ s.size) : (s.extract a s.size).size = s.size - a := by rw [ByteArray.size_extract]; omega
theorem drop_list (s : ByteArray) (a : Nat) : (s.extract a s.size).data.toList = s.data.toList.drop a := by
  rw [bs_extract, bs_list, List.take_of_length_le (by simp)]

set_option maxRecDepth 100000 in
theorem end_any (s : ByteArray) (a : Nat) (w : World) (ha : a < s.size) (hs : s.size ≤ 1048576) :
    Calls Tryd.prog 10 #[.string s, .int .i64 a] w fun e w' => e = .returned (.int .i64 ((a + runLen (s.data.toList.drop a) : Nat) : Int)) ∧ Below w.heap.size w w' := by
  have hI := fun W => index_any (s.extract a s.size) W (by rw [drop_size _ _ (by omega)]; omega)
  have hlen : s.data.toList.length = s.size := by simp
  obtain ⟨h1, h2, h3⟩ := runLen_index (s.data.toList.drop a) (fun e => by have := congrArg List.length e; simp at this; omega)
  have hle := runLen_le (s.data.toList.drop a)
  rw [List.length_drop, hlen] at h1 hle
  rw [← stops_list, ← drop_list] at h1 h2 h3
  rw [← drop_list] at hle ⊢
  generalize runLen (s.extract a s.size).data.toList = m at *
  generalize Lib.indexAny (s.extract a s.size).data.toList stops.data.toList = n at *
  have HI := Lib.hid hI; clear hI
  have a1 : (a : Int) ≤ (s.size : Int) := by omega
  have a2 : (0 : Int) ≤ (a : Int) := by omega
  have H1 := Lib.hid h1; clear h1
  have H2 := Lib.hid h2; clear h2
  have H3 := Lib.hid h3; clear h3
  go_enter Tryd.func10, Tryd.ntmps10
  go_wp2_with fail
  refine (HI.out _).mono ?_
  rintro e w' ⟨rfl, hb⟩
  have HB := Lib.hid hb; clear hb
  rcases (by omega : n < 0 ∨ n = 0 ∨ 0 < n) with hn | hn | hn
  · have hm := H1.out hn
    go_wp2_with fail
    go_ret
    exact ⟨ret_int (by omega), HB.out⟩
  · have hm := H2.out hn
    subst hn
    have hw : IntKind.i64.wrap ((a : Int) + 1) = (a : Int) + 1 := by rw [IntKind.wrap_i64] <;> omega
    go_wp2_with fail
    go_ret
    exact ⟨ret_int (by omega), HB.out⟩
  · have hm := H3.out hn
    have hw : IntKind.i64.wrap ((a : Int) + n) = (a : Int) + n := by rw [IntKind.wrap_i64] <;> omega
    go_wp2_with fail
    go_ret
    exact ⟨ret_int (by omega), HB.out⟩
end Go.Proofs.YtcagfnllfenokaaDoor
