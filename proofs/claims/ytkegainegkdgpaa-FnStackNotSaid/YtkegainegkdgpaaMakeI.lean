/- Copies of lists of integers in new memory: toIntS. -/
import Derived.Test.YtkegainegkdgpaaOwn2
import Derived.Test.YtkegainegkdgpaaMdI
import Derived.Laws.MakeOwn
namespace Go.Proofs.Ytkegainegkdgpaa
set_option linter.unusedSimpArgs false
set_option linter.unusedVariables false
open Go.RowKit
theorem filled_made {w : World} {base g n size : Nat} {t : TypeId} {xs : List Value} (h : w.ownsRow base t size (.slice (some ⟨g, 0, none⟩) n n) n xs) : Filled w g t (n * size) [] := by
  rcases h.2 with ⟨h0, _⟩ | ⟨g', cap, cur, h0, _, h2, _, _, h5, _⟩
  · simp at h0
  · simp only [Value.slice.injEq, Option.some.injEq, Addr.mk.injEq] at h0
    obtain ⟨⟨rfl, _⟩, _, rfl⟩ := h0
    exact ⟨cur, h2, h5, by simp, by simp⟩
theorem below_none {w w' : World} (h : w.grownBy w' none) : Below w.heap.size w w' := ⟨h.os, h.tape, h.output, h.size, fun i hi => h.block i hi (by simp)⟩
end Go.Proofs.Ytkegainegkdgpaa
