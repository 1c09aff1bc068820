/- The contracts of within and l6In. -/
import Derived.Test.YtnnkdoomjkccgaaProg
import Derived.Test.YtnnkdoomjkccgaaPre
namespace Go.Proofs.Ytnnkdoomjkccgaa
set_option linter.unusedSimpArgs false
set_option linter.unusedVariables false
open Go.RowKit

theorem within_any (n lo hi : Int) (w : World) :
    Calls Try.prog 41 #[.int .i64 n, .int .i64 lo, .int .i64 hi] w fun e w' => e = .returned (.bool (inB n lo hi)) ∧ w = w' := by
  rcases Int.lt_or_le n lo with h | h
  · have hx : (Ending.returned (.bool false)) = .returned (.bool (inB n lo hi)) := by simp [inB]; omega
    have HX := Lib.hid hx; clear hx
    have hd : decide (lo ≤ n) = false := by simp; omega
    go_enter Try.func41, Try.ntmps41
    go_wp2
    go_ret
    exact ⟨HX.out, rfl⟩
  · have hd : decide (lo ≤ n) = true := by simp; omega
    go_enter Try.func41, Try.ntmps41
    go_wp2
    go_ret
    exact ⟨by simp [inB, h], rfl⟩
theorem l6In_any (n lo hi : Int) (w : World) :
    Calls Try.prog 37 #[.int .i64 n, .int .i64 lo, .int .i64 hi] w fun e w' => e = .returned (.bool (inB n lo hi)) ∧ w = w' := by
  rcases Int.lt_or_le n lo with h | h
  · have hx : (Ending.returned (.bool false)) = .returned (.bool (inB n lo hi)) := by simp [inB]; omega
    have HX := Lib.hid hx; clear hx
    have hd : decide (lo ≤ n) = false := by simp; omega
    go_enter Try.func37, Try.ntmps37
    go_wp2
    go_ret
    exact ⟨HX.out, rfl⟩
  · have hd : decide (lo ≤ n) = true := by simp; omega
    go_enter Try.func37, Try.ntmps37
    go_wp2
    go_ret
    exact ⟨by simp [inB, h], rfl⟩
end Go.Proofs.Ytnnkdoomjkccgaa
