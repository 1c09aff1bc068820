/- The draws: adjacencies, announcements. -/
import Derived.Test.YtidcpdolcbbnjaaPick
namespace Go.Proofs.Ytidcpdolcbbnjaa
open Go.RowKit

def DrawAdjPost (w : World) (B : Nat) (m : Int) (e : Ending) (w' : World) : Prop :=
  ∃ s a : Int, e = .returned (.agg #[.int .i64 s, .int .i64 a]) ∧ RdLe w' B (m + 20) ∧ w.grownBy w' (some B)

set_option maxHeartbeats 400000 in
theorem drawAdj (B : Nat) (m : Int) (w : World) (h : RdLe w B m) (hm : m < 1000000000000) : Calls Try.prog 54 #[.pointer (some ⟨B, 0, none⟩)] w (DrawAdjPost w B m) := by
  have hB := rdLe_lt h
  have hn1 : w.heap.size ≠ B := by omega
  have hn2 : ∀ k, w.heap.size + k ≠ B := fun k => by omega
  obtain ⟨dS, dA, dD, dZ⟩ := drewN_out
  go_enter Try.func54, Try.ntmps54
  go_wp2_with (go_at_call 42; apply pick_step; (focus (with_reducible (repeat (first | assumption | apply rdLe_alloc | apply rdLe_drewN | apply rdLe_drew | apply rdLe_set | (apply rdLe_setCell; rotate_left; (focus (first | omega | (simp; done) | (simp; omega)))))))); (focus (exact by omega)); intro v p q hv0 hv1 hp0 hp1)
  all_goals
    apply bodyPost_ret
    · simp [results, Try.results54, go_sem]
      rfl
    · rfl
    · exact ⟨_, _, rfl, by (apply rdLe_mono; (focus (with_reducible (repeat (first | assumption | apply rdLe_alloc | apply rdLe_drewN | apply rdLe_drew | apply rdLe_set | (apply rdLe_setCell; rotate_left; (focus (first | omega | (simp; done) | (simp; omega)))))))); (exact by omega)), by (with_reducible (repeat (first | exact only_refl _ _ | apply only_drewN | apply only_drew | apply only_alloc | (apply only_setCell; rotate_left; (focus (first | exact .inl rfl | (exact .inr (by first | omega | (simp; done) | (simp; omega)))))))))⟩

end Go.Proofs.Ytidcpdolcbbnjaa
