/- The draw of a graph that is seldom invalid: l91Spoilt. -/
import Derived.Test.YtnnkdoomjkccgaaDrawG
import Derived.Test.YtnnkdoomjkccgaaDrawN
namespace Go.Proofs.Ytnnkdoomjkccgaa
set_option linter.unusedSimpArgs false
set_option linter.unusedVariables false
open Go.RowKit

def SpoiltPost (w : World) (B : Nat) (m : Int) (e : Ending) (w' : World) : Prop :=
  ∃ n u ls, e = .returned (.agg #[.int .i64 n, u]) ∧ ls.length ≤ 15 ∧ OwnR w' w.heap.size w'.heap.size 46 3 u ls.length (cells3 ls) ∧ RdLe w' B (m + 410) ∧ w.grownBy w' (some B)
theorem cells3_set1 : ∀ {ls : List (Int × Int × Int)} {k : Nat} {x y z : Int}, ls[k]? = some (x, y, z) → ∀ v, (cells3 ls).set (k * 3 + 1) (.int .i64 v) = cells3 (ls.set k (x, v, z))
  | [], k, x, y, z, h, v => by simp at h
  | (x', y', z') :: ls, 0, x, y, z, h, v => by
    simp at h
    obtain ⟨rfl, rfl, rfl⟩ := h
    rfl
  | (x', y', z') :: ls, k + 1, x, y, z, h, v => by
    have e : (k + 1) * 3 + 1 = (k * 3 + 1) + 1 + 1 + 1 := by omega
    have ih := cells3_set1 (ls := ls) (k := k) (x := x) (y := y) (z := z) (by simpa using h) v
    have c : ∀ l : List (Int × Int × Int), cells3 ((x', y', z') :: l) = .int .i64 x' :: .int .i64 y' :: .int .i64 z' :: cells3 l := fun l => rfl
    rw [e, List.set_cons_succ, c, c, List.set_cons_succ, List.set_cons_succ, List.set_cons_succ, ih]
theorem cells3_set2 : ∀ {ls : List (Int × Int × Int)} {k : Nat} {x y z : Int}, ls[k]? = some (x, y, z) → ∀ v, (cells3 ls).set (k * 3 + 2) (.int .i64 v) = cells3 (ls.set k (x, y, v))
  | [], k, x, y, z, h, v => by simp at h
  | (x', y', z') :: ls, 0, x, y, z, h, v => by
    simp at h
    obtain ⟨rfl, rfl, rfl⟩ := h
    rfl
  | (x', y', z') :: ls, k + 1, x, y, z, h, v => by
    have e : (k + 1) * 3 + 2 = (k * 3 + 2) + 1 + 1 + 1 := by omega
    have ih := cells3_set2 (ls := ls) (k := k) (x := x) (y := y) (z := z) (by simpa using h) v
    have c : ∀ l : List (Int × Int × Int), cells3 ((x', y', z') :: l) = .int .i64 x' :: .int .i64 y' :: .int .i64 z' :: cells3 l := fun l => rfl
    rw [e, List.set_cons_succ, c, c, List.set_cons_succ, List.set_cons_succ, List.set_cons_succ, ih]
theorem list_pick3 (x y z : Int) {v : Int} (h0 : 0 ≤ v) (h1 : v < 3) : ∃ c : Int, ∀ h : v.toNat < [Value.int .i64 x, Value.int .i64 y, Value.int .i64 z].length, [Value.int .i64 x, Value.int .i64 y, Value.int .i64 z][v.toNat]'h = .int .i64 c := by
  have : v = 0 ∨ v = 1 ∨ v = 2 := by omega
  rcases this with rfl | rfl | rfl
  · exact ⟨x, fun _ => rfl⟩
  · exact ⟨y, fun _ => rfl⟩
  · exact ⟨z, fun _ => rfl⟩
theorem box_pick3 {w : World} {b : Nat} {x y z v : Int} {t : TypeId} (h : Box w b #[.int .i64 x, .int .i64 y, .int .i64 z] t) (h0 : 0 ≤ v) (h1 : v < 3) : ∃ c : Int, w.cell? ⟨b, v.toNat, none⟩ = some (.int .i64 c) := by
  have : v = 0 ∨ v = 1 ∨ v = 2 := by omega
  rcases this with rfl | rfl | rfl
  · exact ⟨x, h.cell 0 _ rfl⟩
  · exact ⟨y, h.cell 1 _ rfl⟩
  · exact ⟨z, h.cell 2 _ rfl⟩
set_option maxRecDepth 100000 in
set_option maxHeartbeats 4000000 in
theorem drawSpoilt (B : Nat) (m : Int) (w : World) (h : RdLe w B m) (hm : m < 1000000000) : Calls Try.prog 54 #[.pointer (some ⟨B, 0, none⟩)] w (SpoiltPost w B m) := by
  have hB := rdLe_lt h
  have hn1 : w.heap.size ≠ B := by omega
  have hn2 : ∀ k, w.heap.size + k ≠ B := fun k => by omega
  obtain ⟨dS, dA, dD, dZ⟩ := drewN_out
  have dE : ∀ W : World, W.drew = W.drewN 1 := fun _ => rfl
  go_enter Try.func54, Try.ntmps54
  go_wp2_with fail
  have D0 : RdLe (w.alloc (.cells #[.int .i64 0, .slice none 0 0] 26)) B m := rdLe_alloc h _
  refine (drawG B m _ D0 (by omega)).mono ?_
  rintro e w1 ⟨n, u, ls, rfl, hls, hO, hRd, hG, _, _⟩
  have R1 := (box_new w #[.int .i64 0, .slice none 0 0] 26).only hG (by omega)
  have G1 := only_trans (only_alloc (only_refl w (some B)) _) hG
  have O1 := (hO.mono (show w.heap.size + 1 ≤ (w.alloc (.cells #[.int .i64 0, .slice none 0 0] 26)).heap.size by simp) (Nat.le_refl _)).1
  obtain ⟨ua, uc, rfl⟩ := own_slice O1
  have hs1 := G1.size
  clear hO hG D0 h
  obtain ⟨c0, c1, h0, h1, hR2⟩ := box2 R1
  have HO := Lib.hid O1; have HD := Lib.hid hRd; have HG := Lib.hid G1; have HR := Lib.hid R1
  clear O1 hRd G1 R1
  by_cases hl0 : ls.length = 0
  · have t0 : ((ls.length:Int) == 0) = true := by simp [hl0]
    have HL0 := Lib.hid hl0
    clear hl0
    go_wp2_with fail
    apply bodyPost_ret
    · simp [results, Try.results54, go_sem, c0, c1, h0, h1, hR2]
      rfl
    · rfl
    · refine ⟨_, _, ls, rfl, by omega, (OwnR.of ?_).mono (show w.heap.size ≤ w.heap.size + 1 by omega) (Nat.le_refl _), ?_, ?_⟩
      · with_reducible (repeat (first | exact HO.out | apply own_drewN | apply World.ownsRow.alloc | (refine own_setCell ?_ (by first | (simp; done) | omega | (simp; omega)) _)))
      · have hRd := HD.out
        (apply rdLe_mono; (focus (with_reducible (repeat (first | assumption | apply rdLe_alloc | apply rdLe_drewN | apply rdLe_drew | apply rdLe_set | (apply rdLe_setCell; rotate_left; (focus (first | omega | (simp; done) | (simp; omega)))))))); (exact by omega))
      · with_reducible (repeat (first | exact HG.out | apply only_alloc | apply only_drewN | (refine only_setCell ?_ (.inr (by first | (simp; done) | (simp; omega))) _)))
  have t0 : ((ls.length:Int) == 0) = false := by simpa using hl0
  go_wp2_with fail
  have A2 := box_new w1 #[.int .i64 n, .slice ua ls.length uc] 26
  have hlt := hR2
  obtain ⟨Q, hQ⟩ : ∃ Q, w1.heap.size = Q := ⟨_, rfl⟩
  have D2 := rdLe_alloc HD.out (.cells #[.int .i64 n, .slice ua ls.length uc] 26)
  have hOQ : ∀ g, (Value.slice ua ls.length uc).ownBlock = some g → g < Q := fun g hg => by rw [← hQ]; exact (HO.out.lt g hg).2
  have O2 := HO.out.alloc (.cells #[.int .i64 n, .slice ua ls.length uc] 26)
  have R2 := HR.out.alloc (.cells #[.int .i64 n, .slice ua ls.length uc] 26)
  have G2 := only_alloc HG.out (.cells #[.int .i64 n, .slice ua ls.length uc] 26)
  rw [hQ] at A2 hlt ⊢
  obtain ⟨X, hX⟩ : ∃ X, w1.alloc (.cells #[.int .i64 n, .slice ua ls.length uc] 26) = X := ⟨_, rfl⟩
  rw [hX] at A2 D2 O2 R2 G2 ⊢
  have HOQ := Lib.hid hOQ
  clear hX hQ HO HD HG HR c0 c1 h0 h1 hR2 hOQ hs1
  apply pick_op
  · (with_reducible (repeat (first | assumption | apply rdLe_alloc | apply rdLe_drewN | apply rdLe_drew | apply rdLe_set | (apply rdLe_setCell; rotate_left; (focus (first | omega | (simp; done) | (simp; omega)))))))
  · exact by omega
  intro k w2 k_0 k_1 w2_R w2_G
  have A3 := A2.only w2_G (by omega)
  have R3 := R2.only w2_G (by omega)
  have O3 := own_only O2 w2_G (by omega)
  have G3 := only_trans G2 w2_G
  have D3 := w2_R
  clear w2_G w2_R A2 R2 O2 G2 D2
  have hk : k < ls.length := by omega
  go_wp2_with fail
  apply pick_op
  · (with_reducible (repeat (first | assumption | apply rdLe_alloc | apply rdLe_drewN | apply rdLe_drew | apply rdLe_set | (apply rdLe_setCell; rotate_left; (focus (first | omega | (simp; done) | (simp; omega)))))))
  · exact by omega
  intro z w3 z_0 z_1 w3_R w3_G
  have A4 := A3.only w3_G (by omega)
  have R4 := R3.only w3_G (by omega)
  have O4 := own_only O3 w3_G (by omega)
  have G4 := only_trans G3 w3_G
  have D4 := w3_R
  clear w3_G w3_R A3 R3 O3 G3 D3
  obtain ⟨a0, a1, f0, f1, hA4⟩ := box2 A4
  obtain ⟨c0, c1, h0, h1, hR4⟩ := box2 R4
  have HNE : Hid ((Value.slice ua ls.length uc).ownBlock ≠ some Q) := Lib.hid (box_own_ne A4 O4 (by decide))
  obtain ⟨K, rfl⟩ : ∃ K : Nat, k = K := ⟨k.toNat, by omega⟩
  have hK : K < ls.length := by omega
  have hK0 : (0:Int) ≤ (K:Int) := by omega
  obtain ⟨⟨lx, ly, lz⟩, hlk⟩ := at_lt (l := ls) (n := ls.length) rfl hK
  obtain ⟨k0, k1, k2⟩ := cells3_at hlk
  have HLK := Lib.hid hlk
  clear hlk
  rcases Bool.eq_false_or_eq_true (z == 0) with z0 | z0
  · rcases O4.2 with ⟨_, hz0⟩ | ⟨gl, cap, cur, hform, hgl, _⟩
    · omega
    injection hform with q1 q2 q3
    subst q1
    subst q3
    clear q2
    go_wp2_with fail
    go_region_law ((first
      | (go_simp; go_at_call 50; apply pick_op; (focus (with_reducible (repeat (first | assumption | apply rdLe_alloc | apply rdLe_drewN | apply rdLe_drew | apply rdLe_set | (apply rdLe_setCell; rotate_left; (focus (first | omega | (simp; done) | (simp; omega)))))))); (focus (exact by omega)); intro v w2 v_0 v_1 hR2 hG2; have A5 := Box.only (b := Q) (by with_reducible (repeat (first | exact A4 | apply Box.alloc | apply Box.drewN | apply Box.drew))) hG2 (by omega); have R5 := Box.only (b := w.heap.size) (by with_reducible (repeat (first | exact R4 | apply Box.alloc | apply Box.drewN | apply Box.drew))) hG2 (by omega); have O5 := own_only (by with_reducible (repeat (first | exact O4 | apply own_drewN | apply own_drew | apply World.ownsRow.alloc | (refine own_setCell ?_ (by first | (simp; done) | omega | (simp; omega)) _)))) hG2 (by omega); have kc := (O5.cellAt (K * 3 + 2) (by omega)).trans k2; have kf := O5.frozenAt (K * 3 + 2); obtain ⟨e0, e1, j0, j1, l0⟩ := box2 A5; have hv3 : v < 3 := (by omega); obtain ⟨c8, hc8⟩ := list_pick3 0 20 21 v_0 hv3; have lg := cell_lt kc; try (have T5 := Box.only (b := w3.heap.size) (box_at w3.drew #[.int .i64 0, .int .i64 20, .int .i64 21] 3 rfl) hG2 (by omega); obtain ⟨c9, hc9⟩ := box_pick3 T5 v_0 hv3))))
    all_goals
      have hQg : ¬ gl = Q := fun e => HNE.out (congrArg some e)
      have hwl : w.heap.size < gl := by omega
      have hBg : B < gl := by omega
      first
        | (
           obtain ⟨Y, hY⟩ : ∃ Y, w2.setCell ⟨gl, K * 3 + 2, none⟩ (.int .i64 c9) = Y := ⟨_, rfl⟩
           rw [hY]
           have G5 := only_trans (only_drewN (only_alloc G4 (.cells #[.int .i64 0, .int .i64 20, .int .i64 21] 3)) 1) hG2
           have O6 : Hid ((w2.setCell ⟨gl, K * 3 + 2, none⟩ (.int .i64 c9)).ownsRow (w.heap.size + 1) 46 3 (.slice (some ⟨gl, 0, none⟩) ls.length uc) ls.length (cells3 (ls.set K (lx, ly, c9)))) := Lib.hid (by rw [← cells3_set2 HLK.out]; exact (O5.stored (K * 3 + 2) (.int .i64 c9)).1)
           have A6 := A5.setOther (a := ⟨gl, K * 3 + 2, none⟩) (by simp; omega) (.int .i64 c9)
           have R6 := R5.setOther (a := ⟨gl, K * 3 + 2, none⟩) (by simp; omega) (.int .i64 c9)
           have G6 := Lib.hid (only_setCell G5 (p := ⟨gl, K * 3 + 2, none⟩) (.inr (by simp; omega)) (.int .i64 c9))
           have D6 := Lib.hid (rdLe_setCell hR2 (a := ⟨gl, K * 3 + 2, none⟩) (by simp; omega) (.int .i64 c9))
           obtain ⟨cc, hcc⟩ : ∃ cc, c9 = cc := ⟨_, rfl⟩
           rw [hY] at O6 A6 R6 G6 D6
           rw [hcc] at O6
           clear hY hcc)
        | (
           obtain ⟨Y, hY⟩ : ∃ Y, w2.setCell ⟨gl, K * 3 + 2, none⟩ (.int .i64 c8) = Y := ⟨_, rfl⟩
           rw [hY]
           have G5 := only_trans (only_drewN G4 1) hG2
           have O6 : Hid ((w2.setCell ⟨gl, K * 3 + 2, none⟩ (.int .i64 c8)).ownsRow (w.heap.size + 1) 46 3 (.slice (some ⟨gl, 0, none⟩) ls.length uc) ls.length (cells3 (ls.set K (lx, ly, c8)))) := Lib.hid (by rw [← cells3_set2 HLK.out]; exact (O5.stored (K * 3 + 2) (.int .i64 c8)).1)
           have A6 := A5.setOther (a := ⟨gl, K * 3 + 2, none⟩) (by simp; omega) (.int .i64 c8)
           have R6 := R5.setOther (a := ⟨gl, K * 3 + 2, none⟩) (by simp; omega) (.int .i64 c8)
           have G6 := Lib.hid (only_setCell G5 (p := ⟨gl, K * 3 + 2, none⟩) (.inr (by simp; omega)) (.int .i64 c8))
           have D6 := Lib.hid (rdLe_setCell hR2 (a := ⟨gl, K * 3 + 2, none⟩) (by simp; omega) (.int .i64 c8))
           obtain ⟨cc, hcc⟩ : ∃ cc, c8 = cc := ⟨_, rfl⟩
           rw [hY] at O6 A6 R6 G6 D6
           rw [hcc] at O6
           clear hY hcc)
      clear a0 a1 f0 f1 hA4 c0 c1 h0 h1 hR4 kc kf O5 A5 R5 e0 e1 j0 j1 l0
      obtain ⟨a0, a1, f0, f1, hA4⟩ := box2 A6
      obtain ⟨c0, c1, h0, h1, hR4⟩ := box2 R6
      go_wp2_with fail
      apply bodyPost_ret
      · simp [results, Try.results54, go_sem, c0, c1, h0, h1, a0, a1, f0, f1, hR4, hA4]
        rfl
      · rfl
      · refine ⟨_, _, (ls.set K (lx, ly, cc)), rfl, by simp; omega, (OwnR.of ?_).mono (show w.heap.size ≤ w.heap.size + 1 by omega) (Nat.le_refl _), ?_, ?_⟩
        · have h1 := O6.out
          simp only [List.length_set]
          with_reducible (repeat (first | exact h1 | apply own_drewN | apply World.ownsRow.alloc | (refine own_setCell ?_ (by first | (simp; done) | omega | (simp; omega)) _) | (refine own_setOther ?_ HNE.out _)))
        · have hRd := D6.out
          (apply rdLe_mono; (focus (with_reducible (repeat (first | assumption | apply rdLe_alloc | apply rdLe_drewN | apply rdLe_drew | apply rdLe_set | (apply rdLe_setCell; rotate_left; (focus (first | omega | (simp; done) | (simp; omega)))))))); (exact by omega))
        · have h1 := G6.out
          with_reducible (repeat (first | exact h1 | apply only_alloc | apply only_drewN | (refine only_setCell ?_ (.inr (by first | (simp; done) | (simp; omega))) _)))
  rcases Bool.eq_false_or_eq_true (z == 1) with z1 | z1
  · rcases O4.2 with ⟨_, hz0⟩ | ⟨gl, cap, cur, hform, hgl, _⟩
    · omega
    injection hform with q1 q2 q3
    subst q1
    subst q3
    clear q2
    go_wp2_with fail
    go_region_law ((first
      | (go_simp; go_at_call 50; apply pick_op; (focus (with_reducible (repeat (first | assumption | apply rdLe_alloc | apply rdLe_drewN | apply rdLe_drew | apply rdLe_set | (apply rdLe_setCell; rotate_left; (focus (first | omega | (simp; done) | (simp; omega)))))))); (focus (exact by omega)); intro v w2 v_0 v_1 hR2 hG2; have A5 := (A4.drewN 1).only hG2 (by omega); have R5 := (R4.drewN 1).only hG2 (by omega); have O5 := own_only (own_drewN O4 1) hG2 (by omega); have G5 := only_trans (only_drewN G4 1) hG2; have kc := (O5.cellAt (K * 3 + 1) (by omega)).trans k1; have kf := O5.frozenAt (K * 3 + 1); obtain ⟨e0, e1, j0, j1, l0⟩ := box2 A5)))
    all_goals
      have hQg : ¬ gl = Q := fun e => HNE.out (congrArg some e)
      have O6 : Hid ((w2.setCell ⟨gl, K * 3 + 1, none⟩ (.int .i64 v)).ownsRow (w.heap.size + 1) 46 3 (.slice (some ⟨gl, 0, none⟩) ls.length uc) ls.length (cells3 (ls.set K (lx, v, lz)))) := Lib.hid (by rw [← cells3_set1 HLK.out]; exact (O5.stored (K * 3 + 1) (.int .i64 v)).1)
      have A6 := A5.setOther (a := ⟨gl, K * 3 + 1, none⟩) (by simp; omega) (.int .i64 v)
      have R6 := R5.setOther (a := ⟨gl, K * 3 + 1, none⟩) (by simp; omega) (.int .i64 v)
      have G6 := Lib.hid (only_setCell G5 (p := ⟨gl, K * 3 + 1, none⟩) (.inr (by simp; omega)) (.int .i64 v))
      have D6 := Lib.hid (rdLe_setCell hR2 (a := ⟨gl, K * 3 + 1, none⟩) (by simp; omega) (.int .i64 v))
      obtain ⟨Y, hY⟩ : ∃ Y, w2.setCell ⟨gl, K * 3 + 1, none⟩ (.int .i64 v) = Y := ⟨_, rfl⟩
      rw [hY] at O6 A6 R6 G6 D6 ⊢
      clear a0 a1 f0 f1 hA4 c0 c1 h0 h1 hR4 kc kf hY O5 A5 R5 G5 e0 e1 j0 j1 l0
      obtain ⟨a0, a1, f0, f1, hA4⟩ := box2 A6
      obtain ⟨c0, c1, h0, h1, hR4⟩ := box2 R6
      go_wp2_with fail
      apply bodyPost_ret
      · simp [results, Try.results54, go_sem, c0, c1, h0, h1, a0, a1, f0, f1, hR4, hA4]
        rfl
      · rfl
      · refine ⟨_, _, (ls.set K (lx, v, lz)), rfl, by simp; omega, (OwnR.of ?_).mono (show w.heap.size ≤ w.heap.size + 1 by omega) (Nat.le_refl _), ?_, ?_⟩
        · have h1 := O6.out
          simp only [List.length_set]
          with_reducible (repeat (first | exact h1 | apply own_drewN | apply World.ownsRow.alloc | (refine own_setCell ?_ (by first | (simp; done) | omega | (simp; omega)) _) | (refine own_setOther ?_ HNE.out _)))
        · have hRd := D6.out
          (apply rdLe_mono; (focus (with_reducible (repeat (first | assumption | apply rdLe_alloc | apply rdLe_drewN | apply rdLe_drew | apply rdLe_set | (apply rdLe_setCell; rotate_left; (focus (first | omega | (simp; done) | (simp; omega)))))))); (exact by omega))
        · have h1 := G6.out
          with_reducible (repeat (first | exact h1 | apply only_alloc | apply only_drewN | (refine only_setCell ?_ (.inr (by first | (simp; done) | (simp; omega))) _)))
  rcases Bool.eq_false_or_eq_true (z == 2) with z2 | z2
  · go_wp2_with fail
    apply pick_op
    · (with_reducible (repeat (first | assumption | apply rdLe_alloc | apply rdLe_drewN | apply rdLe_drew | apply rdLe_set | (apply rdLe_setCell; rotate_left; (focus (first | omega | (simp; done) | (simp; omega)))))))
    · exact by omega
    intro y w4 y_0 y_1 w4_R w4_G
    have A5 := A4.only w4_G (by omega)
    have R5 := R4.only w4_G (by omega)
    have O5 := own_only O4 w4_G (by omega)
    have G5 := only_trans G4 w4_G
    have D5 := w4_R
    clear w4_G w4_R A4 R4 O4 G4 D4 a0 a1 f0 f1 hA4 c0 c1 h0 h1 hR4
    obtain ⟨a0, a1, f0, f1, hA4⟩ := box2 A5
    obtain ⟨c0, c1, h0, h1, hR4⟩ := box2 R5
    have HNE : Hid ((Value.slice ua ls.length uc).ownBlock ≠ some Q) := Lib.hid (box_own_ne A5 O5 (by decide))
    have hwQ2 : ¬ w.heap.size = Q := by omega
    go_wp2_with fail
    apply bodyPost_ret
    · simp [results, Try.results54, go_sem, c0, c1, h0, h1, a0, a1, f0, f1, hR4, hA4]
      rfl
    · rfl
    · refine ⟨_, _, ls, rfl, by omega, (OwnR.of ?_).mono (show w.heap.size ≤ w.heap.size + 1 by omega) (Nat.le_refl _), ?_, ?_⟩
      · with_reducible (repeat (first | exact O5 | apply own_drewN | apply World.ownsRow.alloc | (refine own_setCell ?_ (by first | (simp; done) | omega | (simp; omega)) _) | (refine own_setOther ?_ HNE.out _)))
      · have hRd := D5
        (apply rdLe_mono; (focus (with_reducible (repeat (first | assumption | apply rdLe_alloc | apply rdLe_drewN | apply rdLe_drew | apply rdLe_set | (apply rdLe_setCell; rotate_left; (focus (first | omega | (simp; done) | (simp; omega)))))))); (exact by omega))
      · with_reducible (repeat (first | exact G5 | apply only_alloc | apply only_drewN | (refine only_setCell ?_ (.inr (by first | (simp; done) | (simp; omega))) _)))
  rcases Bool.eq_false_or_eq_true (z == 3) with z3 | z3
  · rcases O4.2 with ⟨_, hz0⟩ | ⟨gl, cap, cur, hform, hgl, _⟩
    · omega
    injection hform with q1 q2 q3
    subst q1
    subst q3
    clear q2
    obtain ⟨i0, hi, hi0, hi1, hi2⟩ := info_parts infoLk
    have kc0 := (O4.cellAt (K * 3) (by omega)).trans k0
    have kc1 := (O4.cellAt (K * 3 + 1) (by omega)).trans k1
    have kc2 := (O4.cellAt (K * 3 + 2) (by omega)).trans k2
    have hgl3 := (O4.lt gl rfl).2
    go_wp2_with fail
    go_region_law ((first
      | (refine step_append_rd (by rfl) _ _ _ (by rfl) (w.heap.size + 1) 46 i0 _ 3 24 Try.underlying24 hi hi0 hi1 hi2 rfl (by omega) (.slice (some ⟨gl, 0, none⟩) ls.length uc) ls.length (cells3 ls) (by rfl) (by with_reducible (repeat (first | exact O4 | apply own_drewN | apply own_drew | apply World.ownsRow.alloc | (refine own_setCell ?_ (by first | (simp; done) | omega | (simp; omega)) _)))) (some ⟨w3.heap.size, 0, none⟩) 1 1 [.int .i64 lx, .int .i64 ly, .int .i64 lz] (by rfl) (srcAt_one (n := 1) (o := 3) (box_at _ #[.int .i64 lx, .int .i64 ly, .int .i64 lz] _ (by simp)) rfl) (by simp [Value.oneCell']) (by unfold maxLen; omega) (by omega) (by simp; omega) ?_; intro v5 w5 hown5 hgrow5 hloc5; obtain ⟨g5, c5, rfl⟩ := own_slice hown5; have A5 := Box.grown (b := Q) (by with_reducible (repeat (first | exact A4 | apply Box.alloc | apply Box.drewN | apply Box.drew))) hgrow5 (fun j hj e => HNE.out (hj.trans (by rw [e]))); have R5 := Box.grown (b := w.heap.size) (by with_reducible (repeat (first | exact R4 | apply Box.alloc | apply Box.drewN | apply Box.drew))) hgrow5 (fun j hj e => by have := (O4.lt j hj).1; omega); have G5 := only_grownG (by with_reducible (repeat (first | exact G4 | apply only_alloc | apply only_drewN | apply only_drew))) hgrow5 (fun j hj => by have := (O4.lt j hj).1; omega); have D5 := rdLe_grown (B := B) (m := m + 400 + 1 + 1) (by with_reducible (repeat (first | assumption | apply rdLe_alloc | apply rdLe_drewN | apply rdLe_drew | apply rdLe_set | (apply rdLe_setCell; rotate_left; (focus (first | omega | (simp; done) | (simp; omega))))))) hgrow5 (fun j hj => by have := (O4.lt j hj).1; omega); obtain ⟨e0, e1, j0, j1, l0⟩ := box2 A5; obtain ⟨r0, r1, s0, s1, l1⟩ := box2 R5)))
    all_goals
      have o5 : w5.ownsRow (w.heap.size + 1) 46 3 (.slice g5 (ls ++ [(lx, ly, lz)]).length c5) (ls ++ [(lx, ly, lz)]).length (cells3 (ls ++ [(lx, ly, lz)])) := by simpa [cells3_snoc] using hown5
      have hne5 := box_own_ne A5 o5 (by decide)
      have O6 := Lib.hid (own_setOther o5 (a := ⟨Q, 1, none⟩) hne5 (.slice g5 (ls.length + 1) c5))
      have A6 : Box _ Q #[.int .i64 n, .slice g5 (ls.length + 1) c5] _ := box2_set1 A5 (.slice g5 (ls.length + 1) c5)
      have R6 := R5.setOther (a := ⟨Q, 1, none⟩) (by simp; omega) (.slice g5 (ls.length + 1) c5)
      have G6 := Lib.hid (only_setCell G5 (p := ⟨Q, 1, none⟩) (.inr (by simp; omega)) (.slice g5 (ls.length + 1) c5))
      have D6 := Lib.hid (rdLe_setCell D5 (a := ⟨Q, 1, none⟩) (by simp; omega) (.slice g5 (ls.length + 1) c5))
      obtain ⟨Y, hY⟩ : ∃ Y, w5.setCell ⟨Q, 1, none⟩ (.slice g5 (ls.length + 1) c5) = Y := ⟨_, rfl⟩
      rw [hY] at O6 A6 R6 G6 D6 ⊢
      clear a0 a1 f0 f1 hA4 c0 c1 h0 h1 hR4 hY o5 hne5 hown5 hgrow5 hloc5 A5 R5 G5 D5 e0 e1 j0 j1 l0 r0 r1 s0 s1 l1 kc0 kc1 kc2
      obtain ⟨a0, a1, f0, f1, hA4⟩ := box2 A6
      obtain ⟨c0, c1, h0, h1, hR4⟩ := box2 R6
      go_wp2_with fail
      apply bodyPost_ret
      · simp [results, Try.results54, go_sem, c0, c1, h0, h1, a0, a1, f0, f1, hR4, hA4]
        rfl
      · rfl
      · refine ⟨_, _, ls ++ [(lx, ly, lz)], rfl, by simp; omega, (OwnR.of ?_).mono (show w.heap.size ≤ w.heap.size + 1 by omega) (Nat.le_refl _), ?_, ?_⟩
        · have h1 := O6.out
          simp only [List.length_append, List.length_cons, List.length_nil, Nat.zero_add] at h1 ⊢
          exact own_setCell (own_setCell h1 (by simp) _) (by simp) _
        · have hRd := D6.out
          (apply rdLe_mono; (focus (with_reducible (repeat (first | assumption | apply rdLe_alloc | apply rdLe_drewN | apply rdLe_drew | apply rdLe_set | (apply rdLe_setCell; rotate_left; (focus (first | omega | (simp; done) | (simp; omega)))))))); (exact by omega))
        · have h1 := G6.out
          with_reducible (repeat (first | exact h1 | apply only_alloc | apply only_drewN | (refine only_setCell ?_ (.inr (by first | (simp; done) | (simp; omega))) _)))
  go_wp2_with fail
  apply bodyPost_ret
  · simp [results, Try.results54, go_sem, c0, c1, h0, h1, a0, a1, f0, f1, hR4, hA4]
    rfl
  · rfl
  · refine ⟨_, _, ls, rfl, by omega, (OwnR.of ?_).mono (show w.heap.size ≤ w.heap.size + 1 by omega) (Nat.le_refl _), ?_, ?_⟩
    · with_reducible (repeat (first | exact O4 | apply own_drewN | apply World.ownsRow.alloc | (refine own_setCell ?_ (by first | (simp; done) | omega | (simp; omega)) _) | (refine own_setOther ?_ HNE.out _)))
    · have hRd := D4
      (apply rdLe_mono; (focus (with_reducible (repeat (first | assumption | apply rdLe_alloc | apply rdLe_drewN | apply rdLe_drew | apply rdLe_set | (apply rdLe_setCell; rotate_left; (focus (first | omega | (simp; done) | (simp; omega)))))))); (exact by omega))
    · with_reducible (repeat (first | exact G4 | apply only_alloc | apply only_drewN | (refine only_setCell ?_ (.inr (by first | (simp; done) | (simp; omega))) _)))
end Go.Proofs.Ytnnkdoomjkccgaa
