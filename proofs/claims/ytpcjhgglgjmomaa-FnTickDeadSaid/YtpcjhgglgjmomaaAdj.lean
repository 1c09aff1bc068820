/- Adjacencies: the contracts of AdjacencyValid, AdjacencyTick (program and reference), toAdjacency, eqAdjacency. -/
import Derived.Test.YtpcjhgglgjmomaaBase
namespace Go.Proofs.Ytpcjhgglgjmomaa
open Go.RowKit

def adjOk (s a : Int) : Bool := (s == 0 && a == 0) || (inB s 1 3 && inB a 0 3)
def tickOf (s a : Int) : Int × Int := if adjOk s a && !(s == 0) && !(a == 3) then (s, a + 1) else (0, 0)
def adjV (p : Int × Int) : Value := .agg #[.int .i64 p.1, .int .i64 p.2]
theorem adjOk_inv {s a : Int} (h : adjOk s a = true) (hs : (s == 0) = false) : 1 ≤ s ∧ s ≤ 3 ∧ 0 ≤ a ∧ a ≤ 3 := by
  simp [adjOk, inB] at *; omega
theorem ret_adj {s a : Int} {p : Int × Int} (h : p = (s, a)) : Ending.returned (.agg #[.int .i64 s, .int .i64 a]) = .returned (adjV p) := by rw [h]; rfl

theorem eqlAdj (W : World) (s a s' a' : Int) : (binOp .eql 25 (.agg #[.int .i64 s, .int .i64 a]) (.agg #[.int .i64 s', .int .i64 a'])).run Try.prog W = .ok (.bool (s == s' && a == a')) W := by
  have u3 := Try.underlying3
  have a3 := Try.isAgg3
  have z3 := Try.sizeOf3
  have hS : Try.prog.underlying 25 = some (.struct (Try.prog.fieldsOf 25)) := by kernel_rfl
  have hp : Try.prog.stoodInHeld 25 = false := by kernel_rfl
  rw [run_eql_struct, show (10000 : Nat) = 9999 + 1 from rfl, run_equalIn_agg W 9999 25 _ _ hS hp]
  simp only [Program.fieldsOf, Try.underlying25]
  go_simp
  by_cases h1 : s = s' <;> by_cases h2 : a = a' <;> simp [h1, h2]

theorem neqAdj (W : World) (s a s' a' : Int) : (binOp .neq 25 (.agg #[.int .i64 s, .int .i64 a]) (.agg #[.int .i64 s', .int .i64 a'])).run Try.prog W = .ok (.bool (!(s == s' && a == a'))) W := by
  have u3 := Try.underlying3
  have a3 := Try.isAgg3
  have z3 := Try.sizeOf3
  have hS : Try.prog.underlying 25 = some (.struct (Try.prog.fieldsOf 25)) := by kernel_rfl
  have hp : Try.prog.stoodInHeld 25 = false := by kernel_rfl
  rw [run_neq_struct, show (10000 : Nat) = 9999 + 1 from rfl, run_equalIn_agg W 9999 25 _ _ hS hp]
  simp only [Program.fieldsOf, Try.underlying25]
  go_simp
  by_cases h1 : s = s' <;> by_cases h2 : a = a' <;> simp [h1, h2]

theorem sAdjValid (s a : Int) (w : World) : Calls Try.prog 14 #[.agg #[.int .i64 s, .int .i64 a]] w fun e w' => e = .returned (.bool (adjOk s a)) ∧ w.alloc (.cells #[.int .i64 s, .int .i64 a] 25) = w' := by
  rcases Bool.eq_false_or_eq_true (s == 0) with h | h
  · go_enter Try.func14, Try.ntmps14
    go_wp2_with (go_at_call 38; refine (l6In_any _ _ _ _).mono ?_; rintro e w' ⟨rfl, rfl⟩)
    go_ret
    exact ⟨ret_bool (by have := (beq_iff_eq.1 h); subst this; simp [adjOk, inB]), rfl⟩
  · rcases Bool.eq_false_or_eq_true (inB s 1 3) with h3 | h3
    all_goals
      go_enter Try.func14, Try.ntmps14
      go_wp2_with (go_at_call 38; refine (l6In_any _ _ _ _).mono ?_; rintro e w' ⟨rfl, rfl⟩)
      go_ret
      exact ⟨ret_bool (by simp [adjOk, h, h3]), rfl⟩
theorem iAdjValid (s a : Int) (w : World) : Calls Try.prog 16 #[.agg #[.int .i64 s, .int .i64 a]] w fun e w' => e = .returned (.bool (adjOk s a)) ∧ w.alloc (.cells #[.int .i64 s, .int .i64 a] 25) = w' := by
  have he := fun W => eqlAdj W s a 0 0
  rcases Bool.eq_false_or_eq_true (s == 0 && a == 0) with h | h
  · go_enter Try.func16, Try.ntmps16
    go_wp2_with (go_at_call 39; refine (within_any _ _ _ _).mono ?_; rintro e w' ⟨rfl, rfl⟩)
    go_ret
    exact ⟨ret_bool (by simp [adjOk, h]), rfl⟩
  · rcases Bool.eq_false_or_eq_true (inB s 1 3) with h3 | h3
    all_goals
      go_enter Try.func16, Try.ntmps16
      go_wp2_with (go_at_call 39; refine (within_any _ _ _ _).mono ?_; rintro e w' ⟨rfl, rfl⟩)
      go_ret
      exact ⟨ret_bool (by simp [adjOk, h, h3]), rfl⟩

def tickW (w : World) (s a r1 r2 : Int) : World := ((w.alloc (.cells #[.int .i64 s, .int .i64 a] 25)).alloc (.cells #[.int .i64 r1, .int .i64 r2] 25)).alloc (.cells #[.int .i64 s, .int .i64 a] 25)
theorem sTick (s a r1 r2 : Int) (hr : tickOf s a = (r1, r2)) (w : World) : Calls Try.prog 17 #[.agg #[.int .i64 s, .int .i64 a]] w fun e w' => e = .returned (.agg #[.int .i64 r1, .int .i64 r2]) ∧ tickW w s a r1 r2 = w' := by
  have HT := Lib.hid hr; clear hr
  rcases Bool.eq_false_or_eq_true (adjOk s a) with h | h
  rotate_left
  · go_enter Try.func17, Try.ntmps17
    go_wp2_with (go_at_call 14; refine (sAdjValid _ _ _).mono ?_; rintro e w' ⟨rfl, rfl⟩)
    obtain ⟨rfl, rfl⟩ := Prod.mk.inj (HT.out.symm.trans (show tickOf s a = (0, 0) from by simp [tickOf, h]))
    exact bodyPost_ret (v := .agg #[.int .i64 0, .int .i64 0]) (by simp [results, Try.results17, go_sem]) rfl ⟨rfl, rfl⟩
  rcases Bool.eq_false_or_eq_true (s == 0) with h0 | h0
  · go_enter Try.func17, Try.ntmps17
    go_wp2_with (go_at_call 14; refine (sAdjValid _ _ _).mono ?_; rintro e w' ⟨rfl, rfl⟩)
    obtain ⟨rfl, rfl⟩ := Prod.mk.inj (HT.out.symm.trans (show tickOf s a = (0, 0) from by simp [tickOf, h0]))
    exact bodyPost_ret (v := .agg #[.int .i64 0, .int .i64 0]) (by simp [results, Try.results17, go_sem]) rfl ⟨rfl, rfl⟩
  obtain ⟨b1, b2, b3, b4⟩ := adjOk_inv h h0
  rcases Bool.eq_false_or_eq_true (a == 3) with h3 | h3
  · have h4 : (4:Int) ≤ a + 1 := by have := beq_iff_eq.1 h3; omega
    have h5 := Lib.hid h3
    clear h3
    go_enter Try.func17, Try.ntmps17
    go_wp2_with (go_at_call 14; refine (sAdjValid _ _ _).mono ?_; rintro e w' ⟨rfl, rfl⟩)
    obtain ⟨rfl, rfl⟩ := Prod.mk.inj (HT.out.symm.trans (show tickOf s a = (0, 0) from by simp [tickOf, h5.out]))
    exact bodyPost_ret (v := .agg #[.int .i64 0, .int .i64 0]) (by simp [results, Try.results17, go_sem]) rfl ⟨rfl, rfl⟩
  · have h4 : a + 1 < (4:Int) := by have : ¬ a = 3 := by simpa using h3
                                    omega
    have h5 := Lib.hid h3
    clear h3
    go_enter Try.func17, Try.ntmps17
    go_wp2_with (go_at_call 14; refine (sAdjValid _ _ _).mono ?_; rintro e w' ⟨rfl, rfl⟩)
    obtain ⟨e1, e2⟩ := Prod.mk.inj ((show tickOf s a = (s, a + 1) from by simp [tickOf, h, h0, h5.out]).symm.trans HT.out)
    subst e1 e2
    exact bodyPost_ret (v := .agg #[.int .i64 s, .int .i64 (a + 1)]) (by simp [results, Try.results17, go_sem]) rfl ⟨rfl, rfl⟩

theorem iTick (s a r1 r2 : Int) (hr : tickOf s a = (r1, r2)) (w : World) : Calls Try.prog 18 #[.agg #[.int .i64 s, .int .i64 a]] w fun e w' => e = .returned (.agg #[.int .i64 r1, .int .i64 r2]) ∧ tickW w s a r1 r2 = w' := by
  have HT := Lib.hid hr; clear hr
  rcases Bool.eq_false_or_eq_true (adjOk s a) with h | h
  rotate_left
  · go_enter Try.func18, Try.ntmps18
    go_wp2_with (go_at_call 16; refine (iAdjValid _ _ _).mono ?_; rintro e w' ⟨rfl, rfl⟩)
    obtain ⟨rfl, rfl⟩ := Prod.mk.inj (HT.out.symm.trans (show tickOf s a = (0, 0) from by simp [tickOf, h]))
    exact bodyPost_ret (v := .agg #[.int .i64 0, .int .i64 0]) (by simp [results, Try.results18, go_sem]) rfl ⟨rfl, rfl⟩
  rcases Bool.eq_false_or_eq_true (s == 0) with h0 | h0
  · go_enter Try.func18, Try.ntmps18
    go_wp2_with (go_at_call 16; refine (iAdjValid _ _ _).mono ?_; rintro e w' ⟨rfl, rfl⟩)
    obtain ⟨rfl, rfl⟩ := Prod.mk.inj (HT.out.symm.trans (show tickOf s a = (0, 0) from by simp [tickOf, h0]))
    exact bodyPost_ret (v := .agg #[.int .i64 0, .int .i64 0]) (by simp [results, Try.results18, go_sem]) rfl ⟨rfl, rfl⟩
  obtain ⟨b1, b2, b3, b4⟩ := adjOk_inv h h0
  rcases Bool.eq_false_or_eq_true (a == 3) with h3 | h3
  · have h4 : (a + 1 == (4:Int)) = true := by have := beq_iff_eq.1 h3; rw [beq_iff_eq]; omega
    have h5 := Lib.hid h3
    clear h3
    go_enter Try.func18, Try.ntmps18
    go_wp2_with (go_at_call 16; refine (iAdjValid _ _ _).mono ?_; rintro e w' ⟨rfl, rfl⟩)
    obtain ⟨rfl, rfl⟩ := Prod.mk.inj (HT.out.symm.trans (show tickOf s a = (0, 0) from by simp [tickOf, h5.out]))
    exact bodyPost_ret (v := .agg #[.int .i64 0, .int .i64 0]) (by simp [results, Try.results18, go_sem]) rfl ⟨rfl, rfl⟩
  · have h4 : (a + 1 == (4:Int)) = false := by have : ¬ a = 3 := by simpa using h3
                                               simp; omega
    have h5 := Lib.hid h3
    clear h3
    go_enter Try.func18, Try.ntmps18
    go_wp2_with (go_at_call 16; refine (iAdjValid _ _ _).mono ?_; rintro e w' ⟨rfl, rfl⟩)
    obtain ⟨e1, e2⟩ := Prod.mk.inj ((show tickOf s a = (s, a + 1) from by simp [tickOf, h, h0, h5.out]).symm.trans HT.out)
    subst e1 e2
    exact bodyPost_ret (v := .agg #[.int .i64 s, .int .i64 (a + 1)]) (by simp [results, Try.results18, go_sem]) rfl ⟨rfl, rfl⟩

theorem toAdj (s a : Int) (w : World) : Calls Try.prog 15 #[.agg #[.int .i64 s, .int .i64 a]] w fun e w' => e = .returned (.agg #[.int .i64 s, .int .i64 a]) ∧ ((w.alloc (.cells #[.int .i64 s, .int .i64 a] 23)).alloc (.cells #[.int .i64 s, .int .i64 a] 25)).alloc (.cells #[.int .i64 s, .int .i64 a] 25) = w' := by
  go_enter Try.func15, Try.ntmps15
  go_wp2
  exact bodyPost_ret (v := .agg #[.int .i64 s, .int .i64 a]) (by simp [results, Try.results15, go_sem]) rfl ⟨rfl, rfl⟩
theorem eqAdj (s a s' a' : Int) (w : World) : Calls Try.prog 19 #[.agg #[.int .i64 s, .int .i64 a], .agg #[.int .i64 s', .int .i64 a']] w fun e w' => e = .returned (.bool (s == s' && a == a')) ∧ (w.alloc (.cells #[.int .i64 s, .int .i64 a] 25)).alloc (.cells #[.int .i64 s', .int .i64 a'] 25) = w' := by
  rcases Bool.eq_false_or_eq_true (s == s') with h | h
  all_goals
    have h1 : (s != s') = !(s == s') := rfl
    rw [h] at h1
    rcases Bool.eq_false_or_eq_true (a == a') with k | k
    all_goals
      have k1 : (a != a') = !(a == a') := rfl
      rw [k] at k1
      go_enter Try.func19, Try.ntmps19
      go_wp2
      go_ret
      exact ⟨ret_bool (by simp [h, k]), rfl⟩
end Go.Proofs.Ytpcjhgglgjmomaa
