/- Plain facts on what a hello gives. -/
import Derived.Test.YtbccenoclmmcdaaHello
namespace Go.Proofs.Ytbccenoclmmcdaa
open Go.RowKit
theorem helloSt_eq (s a me : Int) (l : List Int) : helloSt s a me l = if helloOk s a me l = true then (if hasI l me = true then (if (s == 3) = true then 3 else 2) else 1) else 0 := rfl
theorem hello_cases (s a me : Int) (l : List Int) : (helloSt s a me l = 0 ∧ helloOk s a me l = false) ∨
    (helloSt s a me l = 1 ∧ helloOk s a me l = true ∧ hasI l me = false) ∨ (helloSt s a me l = 3 ∧ helloOk s a me l = true ∧ hasI l me = true ∧ s = 3) ∨
    (helloSt s a me l = 2 ∧ helloOk s a me l = true ∧ hasI l me = true ∧ 0 ≤ s ∧ s ≤ 2) := by
  rw [helloSt_eq]
  rcases Bool.eq_false_or_eq_true (helloOk s a me l) with h | h
  · rcases Bool.eq_false_or_eq_true (hasI l me) with k | k
    · by_cases hs : s = 3
      · exact .inr (.inr (.inl ⟨by rw [h, k, hs]; rfl, h, k, hs⟩))
      · refine .inr (.inr (.inr ⟨?_, h, k, ?_⟩))
        · have hs' : (s == 3) = false := by simpa using hs
          rw [h, k, hs']; rfl
        · simp only [helloOk, Bool.and_eq_true] at h
          have := h.1.1
          simp [adjOk, inB] at this
          omega
    · exact .inr (.inl ⟨by rw [h, k]; rfl, h, k⟩)
  · exact .inl ⟨by rw [h]; rfl, h⟩
theorem hello_again {s a me : Int} {l : List Int} (h : helloOk s a me l = true) (r : Int) (hr : r = 1 ∨ r = 2 ∨ r = 3) : helloOk r 0 me l = true := by
  simp only [helloOk, Bool.and_eq_true] at h ⊢
  refine ⟨⟨?_, h.1.2⟩, h.2⟩
  rcases hr with rfl | rfl | rfl <;> rfl
theorem hello_st {s a me r : Int} {l : List Int} (h : helloOk s a me l = true) (hr : r = 1 ∨ r = 2 ∨ r = 3) (hk : (hasI l me = false ∧ r = 1) ∨ (hasI l me = true ∧ r ≠ 1)) : helloSt r 0 me l = r := by
  have h2 := hello_again h r hr
  rw [helloSt_eq, h2]
  rcases hk with ⟨k, rfl⟩ | ⟨k, k2⟩
  · rw [k]; rfl
  · rw [k]
    rcases hr with rfl | rfl | rfl
    · exact absurd rfl k2
    · rfl
    · rfl
theorem iHelloAt {s a me r : Int} {heard : List Int} {ok : Bool} (hr : helloSt s a me heard = r) (hok : helloOk s a me heard = ok) {v : Value} {w : World} (h : IntsAt w v heard) :
    Calls Try.prog 22 #[.agg #[.int .i64 s, .int .i64 a], .int .i64 me, v] w fun e w' => e = .returned (.tuple #[.agg #[.int .i64 r, .int .i64 0], .bool ok]) ∧ Below w.heap.size w w' := by
  subst hr hok; exact iHello s a me heard v w h
theorem sHelloAt {s a me r : Int} {heard : List Int} {ok : Bool} (hr : helloSt s a me heard = r) (hok : helloOk s a me heard = ok) {v : Value} {w : World} (h : IntsAt w v heard) :
    Calls Try.prog 19 #[.agg #[.int .i64 s, .int .i64 a], .int .i64 me, v] w fun e w' => e = .returned (.tuple #[.agg #[.int .i64 r, .int .i64 0], .bool ok]) ∧ Below w.heap.size w w' := by
  subst hr hok; exact sHello s a me heard v w h
end Go.Proofs.Ytbccenoclmmcdaa
