/- What the walks lean on of the package-level variables: strconv.ErrRange holds something; the table of powers. It stays while old memory stays. -/
import Derived.Test.YtcagfnllfenokaaDoorShelf
import Derived.Test.YtcagfnllfenokaaDoorBase
namespace Go.Proofs.YtcagfnllfenokaaDoor
open Go.RowKit

theorem var_stays {P : Program} {w w' : World} {n : String} {cs : Array Value} (hb : Below w.heap.size w w') (h : w.var? P n = some cs) : w'.var? P n = some cs := by
  unfold World.var? at h ⊢
  cases hg : P.globalNamed n with
  | none => rw [hg] at h; simp at h
  | some g =>
    rw [hg] at h
    simp only [Option.bind_some] at h ⊢
    have hlt : g < w.heap.size := by
      rcases Nat.lt_or_ge g w.heap.size with h1 | h1
      · exact h1
      · rw [Array.getElem?_eq_none h1] at h; simp at h
    rw [hb.block g hlt]
    exact h

structure Env (w : World) : Prop where
  range : ∃ tp q, w.var? Tryd.prog "strconv.ErrRange" = some #[.iface tp q]
  tab : Lib.TabIs Tryd.prog w "internal/strconv.uint64pow10" .u64 Lib.pow10Tab
theorem Env.step {w w' : World} (h : Env w) (hb : Below w.heap.size w w') : Env w' := by
  obtain ⟨⟨tp, q, h1⟩, h2⟩ := h
  exact ⟨⟨tp, q, var_stays hb h1⟩, var_stays hb h2⟩
theorem Env.old {B : Nat} {w w' : World} (h : Env w) (ho : Old B w w') (hB : w.heap.size ≤ B) : Env w' := h.step (ho.b.mono hB)
theorem Env.alloc {w : World} (h : Env w) (o : Obj) : Env (w.alloc o) := h.step ((Below.refl _ _).alloc (Nat.le_refl _) _)
theorem Env.q {w w' : World} (h : Env w) (k : Q w w') : Env w' := by
  obtain ⟨n, rfl⟩ := k
  exact h.step (below_drewN (Below.refl _ _) n)
end Go.Proofs.YtcagfnllfenokaaDoor
