/- The draws of a node and of a link: some number. -/
import Derived.Test.YtnnkdoomjkccgaaPick
import Derived.Test.YtnnkdoomjkccgaaOwn2
namespace Go.Proofs.Ytnnkdoomjkccgaa
set_option linter.unusedSimpArgs false
set_option linter.unusedVariables false
open Go.RowKit

def SomeInt (w : World) (B : Nat) (m : Int) (e : Ending) (w' : World) : Prop := ∃ x : Int, e = .returned (.int .i64 x) ∧ RdLe w' B (m + 2) ∧ w.grownBy w' (some B)
theorem drawNode (B : Nat) (m n : Int) (v : Value) (w : World) (hf : ∃ a k c, v = .slice a k c) (h : RdLe w B m) (hm : m < 1000000000000) : Calls Try.prog 55 #[.pointer (some ⟨B, 0, none⟩), .agg #[.int .i64 n, v]] w (SomeInt w B m) := by
  obtain ⟨a, k, c, rfl⟩ := hf
  have hB := rdLe_lt h
  go_enter Try.func55, Try.ntmps55
  go_wp2_with fail
  apply pick_op
  · (with_reducible (repeat (first | assumption | apply rdLe_alloc | apply rdLe_drewN | apply rdLe_drew | apply rdLe_set | (apply rdLe_setCell; rotate_left; (focus (first | omega | (simp; done) | (simp; omega)))))))
  · exact by omega
  intro z W z_0 z_1 W_R W_G
  have A := box_new w #[.int .i64 n, .slice a k c] 26
  have hA := A.only W_G (by simp; omega)
  obtain ⟨A_0, A_1, A_2, A_3, A_4⟩ := box2 hA
  have HG := Lib.hid (only_trans (only_alloc (only_refl w (some B)) _) W_G)
  clear W_G A hA
  rcases Bool.eq_false_or_eq_true (z == 0) with hz | hz
  · go_wp2_with fail
    apply pick_op
    · (with_reducible (repeat (first | assumption | apply rdLe_alloc | apply rdLe_drewN | apply rdLe_drew | apply rdLe_set | (apply rdLe_setCell; rotate_left; (focus (first | omega | (simp; done) | (simp; omega)))))))
    · exact by omega
    intro y W2 y_0 y_1 W2_R W2_G
    have G2 := Lib.hid (only_trans HG.out W2_G)
    clear W2_G
    go_wp2_with fail
    go_ret
    exact ⟨_, rfl, rdLe_mono W2_R (by omega), G2.out⟩
  · by_cases h1 : 1 ≤ n
    · have hmx : max n 1 = n := by omega
      go_wp2_with fail
      apply pick_op
      · (with_reducible (repeat (first | assumption | apply rdLe_alloc | apply rdLe_drewN | apply rdLe_drew | apply rdLe_set | (apply rdLe_setCell; rotate_left; (focus (first | omega | (simp; done) | (simp; omega)))))))
      · exact by omega
      intro y W2 y_0 y_1 W2_R W2_G
      have G2 := Lib.hid (only_trans HG.out W2_G)
      clear W2_G
      go_wp2_with fail
      go_ret
      exact ⟨_, rfl, rdLe_mono W2_R (by omega), G2.out⟩
    · have hmx : max n 1 = 1 := by omega
      go_wp2_with fail
      apply pick_op
      · (with_reducible (repeat (first | assumption | apply rdLe_alloc | apply rdLe_drewN | apply rdLe_drew | apply rdLe_set | (apply rdLe_setCell; rotate_left; (focus (first | omega | (simp; done) | (simp; omega)))))))
      · exact by omega
      intro y W2 y_0 y_1 W2_R W2_G
      have G2 := Lib.hid (only_trans HG.out W2_G)
      clear W2_G
      go_wp2_with fail
      go_ret
      exact ⟨_, rfl, rdLe_mono W2_R (by omega), G2.out⟩
end Go.Proofs.Ytnnkdoomjkccgaa
