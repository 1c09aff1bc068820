/- Adjacencies: the contracts of AdjacencyValid, AdjacencyTick (program and reference), toAdjacency, eqAdjacency. -/
import Derived.Test.YtidcpdolcbbnjaaBase
namespace Go.Proofs.Ytidcpdolcbbnjaa
open Go.RowKit

def adjOk (s a : Int) : Bool := (s == 0 && a == 0) || (inB s 1 3 && inB a 0 3)
def tickOf (s a : Int) : Int × Int := if adjOk s a && !(s == 0) && !(a == 3) then (s, a + 1) else (0, 0)
def adjV (p : Int × Int) : Value := .agg #[.int .i64 p.1, .int .i64 p.2]
theorem adjOk_inv {s a : Int} (h : adjOk s a = true) (hs : (s == 0) = false) : 1 ≤ s ∧ s ≤ 3 ∧ 0 ≤ a ∧ a ≤ 3 := by
  simp [adjOk, inB] at *; omega
theorem ret_adj {s a : Int} {p : Int × Int} (h : p = (s, a)) : Ending.returned (.agg #[.int .i64 s, .int .i64 a]) = .returned (adjV p) := by rw [h]; rfl

theorem eqlAdj (W : World) (s a s' a' : Int) : (binOp .eql 45 (.agg #[.int .i64 s, .int .i64 a]) (.agg #[.int .i64 s', .int .i64 a'])).run Try.prog W = .ok (.bool (s == s' && a == a')) W := by
  have u3 := Try.underlying3
  have a3 := Try.isAgg3
  have z3 := Try.sizeOf3
  have hS : Try.prog.underlying 45 = some (.struct (Try.prog.fieldsOf 45)) := by kernel_rfl
  have hp : Try.prog.stoodInHeld 45 = false := by kernel_rfl
  rw [run_eql_struct, show (10000 : Nat) = 9999 + 1 from rfl, run_equalIn_agg W 9999 45 _ _ hS hp]
  simp only [Program.fieldsOf, Try.underlying45]
  go_simp
  by_cases h1 : s = s' <;> by_cases h2 : a = a' <;> simp [h1, h2]

theorem neqAdj (W : World) (s a s' a' : Int) : (binOp .neq 45 (.agg #[.int .i64 s, .int .i64 a]) (.agg #[.int .i64 s', .int .i64 a'])).run Try.prog W = .ok (.bool (!(s == s' && a == a'))) W := by
  have u3 := Try.underlying3
  have a3 := Try.isAgg3
  have z3 := Try.sizeOf3
  have hS : Try.prog.underlying 45 = some (.struct (Try.prog.fieldsOf 45)) := by kernel_rfl
  have hp : Try.prog.stoodInHeld 45 = false := by kernel_rfl
  rw [run_neq_struct, show (10000 : Nat) = 9999 + 1 from rfl, run_equalIn_agg W 9999 45 _ _ hS hp]
  simp only [Program.fieldsOf, Try.underlying45]
  go_simp
  by_cases h1 : s = s' <;> by_cases h2 : a = a' <;> simp [h1, h2]

theorem sAdjValid (s a : Int) (w : World) : Calls Try.prog 29 #[.agg #[.int .i64 s, .int .i64 a]] w fun e w' => e = .returned (.bool (adjOk s a)) ∧ w.alloc (.cells #[.int .i64 s, .int .i64 a] 45) = w' := by
  rcases Bool.eq_false_or_eq_true (s == 0) with h | h
  · go_enter Try.func29, Try.ntmps29
    go_wp2_with (go_at_call 57; refine (l6In_any _ _ _ _).mono ?_; rintro e w' ⟨rfl, rfl⟩)
    go_ret
    exact ⟨ret_bool (by have := (beq_iff_eq.1 h); subst this; simp [adjOk, inB]), rfl⟩
  · rcases Bool.eq_false_or_eq_true (inB s 1 3) with h3 | h3
    all_goals
      go_enter Try.func29, Try.ntmps29
      go_wp2_with (go_at_call 57; refine (l6In_any _ _ _ _).mono ?_; rintro e w' ⟨rfl, rfl⟩)
      go_ret
      exact ⟨ret_bool (by simp [adjOk, h, h3]), rfl⟩
theorem iAdjValid (s a : Int) (w : World) : Calls Try.prog 55 #[.agg #[.int .i64 s, .int .i64 a]] w fun e w' => e = .returned (.bool (adjOk s a)) ∧ w.alloc (.cells #[.int .i64 s, .int .i64 a] 45) = w' := by
  have he := fun W => eqlAdj W s a 0 0
  rcases Bool.eq_false_or_eq_true (s == 0 && a == 0) with h | h
  · go_enter Try.func55, Try.ntmps55
    go_wp2_with (go_at_call 48; refine (within_any _ _ _ _).mono ?_; rintro e w' ⟨rfl, rfl⟩)
    go_ret
    exact ⟨ret_bool (by simp [adjOk, h]), rfl⟩
  · rcases Bool.eq_false_or_eq_true (inB s 1 3) with h3 | h3
    all_goals
      go_enter Try.func55, Try.ntmps55
      go_wp2_with (go_at_call 48; refine (within_any _ _ _ _).mono ?_; rintro e w' ⟨rfl, rfl⟩)
      go_ret
      exact ⟨ret_bool (by simp [adjOk, h, h3]), rfl⟩


end Go.Proofs.Ytidcpdolcbbnjaa
