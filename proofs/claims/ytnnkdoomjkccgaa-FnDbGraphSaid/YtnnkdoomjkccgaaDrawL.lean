/- The draw of an announcement: l91Lsa, DrawLsaValid. -/
import Derived.Test.YtnnkdoomjkccgaaPick
import Derived.Test.YtnnkdoomjkccgaaOwn2
import Derived.Deep.RegionHeld3
import Derived.Deep.RegionLaw
import Derived.Deep.AppendLies
import Derived.OwnWalk
namespace Go.Proofs.Ytnnkdoomjkccgaa
set_option linter.unusedSimpArgs false
set_option linter.unusedVariables false
open Go.RowKit

theorem infoEnd : (Try.prog.info? 43).map (fun i => (i.zero, i.size, i.bytes)) = some (some (.agg #[.int .i64 0, .int .i64 0]), 2, 16) := by kernel_rfl
def DrawLsaPost (w : World) (B : Nat) (m : Int) (e : Ending) (w' : World) : Prop :=
  ∃ o s u es, e = .returned (.agg #[.int .i64 o, .int .i64 s, u]) ∧ es.length ≤ 7 ∧ OwnR w' w.heap.size w'.heap.size 43 2 u es.length (cells2 es) ∧ RdLe w' B (m + 40) ∧ w.grownBy w' (some B)
/-- What holds in the loop of l91Lsa. -/
def LsaLoop (w : World) (B : Nat) (m o s : Int) (k : Nat) (wr : World) : Prop :=
  ∃ hv es, es.length ≤ k ∧ RdLe wr B (m + 2 + 2 * k) ∧ wr.ownsRow (w.heap.size + 1) 43 2 hv es.length (cells2 es) ∧ Box wr w.heap.size #[.int .i64 0, .int .i64 0, .slice none 0 0] 41 ∧ Box wr (w.heap.size + 1 + 1) #[.int .i64 o, .int .i64 s, hv] 41 ∧ w.grownBy wr (some B)
theorem own_snoc2 {w : World} {base : Nat} {e : TypeId} {v : Value} {es : List (Int × Int)} {x y : Int} (h : w.ownsRow base e 2 v (es.length + 1) (cells2 es ++ [.int .i64 x, .int .i64 y])) : w.ownsRow base e 2 v (es ++ [(x, y)]).length (cells2 (es ++ [(x, y)])) := by
  rw [List.length_append, cells2_snoc, List.append_assoc]
  exact h
theorem only_grown {a b c : World} {g : Nat} {row : Option Nat} (h : a.grownBy b (some g)) (k : b.grownBy c row) (hr : ∀ j, row = some j → a.heap.size ≤ j) : a.grownBy c (some g) :=
  ⟨k.os.trans h.os, k.tape.trans h.tape, k.output.trans h.output, Nat.le_trans h.size k.size, fun i hi hne => (k.block i (Nat.lt_of_lt_of_le hi h.size) (fun e => by have := hr i e.symm; omega)).trans (h.block i hi hne)⟩
set_option maxRecDepth 100000 in
set_option maxHeartbeats 2000000 in
theorem drawLsa (B : Nat) (m : Int) (w : World) (h : RdLe w B m) (hm : m < 1000000000000) : Calls Try.prog 74 #[.pointer (some ⟨B, 0, none⟩)] w (DrawLsaPost w B m) := by
  obtain ⟨i0, hi, hz0, hz1, hz2⟩ := info_parts infoEnd
  have hB := rdLe_lt h
  have hn1 : w.heap.size ≠ B := by omega
  have hn2 : ∀ k, w.heap.size + k ≠ B := fun k => by omega
  obtain ⟨dS, dA, dD, dZ⟩ := drewN_out
  have dE : ∀ W : World, W.drew = W.drewN 1 := fun _ => rfl
  go_enter Try.func74, Try.ntmps74
  go_wp2_with fail
  apply pick_step
  · (with_reducible (repeat (first | assumption | apply rdLe_alloc | apply rdLe_drewN | apply rdLe_drew | apply rdLe_set | (apply rdLe_setCell; rotate_left; (focus (first | omega | (simp; done) | (simp; omega)))))))
  · exact by omega
  intro x xp xq x_0 x_1 x_2 x_3
  go_wp2_with fail
  apply pick_step
  · (with_reducible (repeat (first | assumption | apply rdLe_alloc | apply rdLe_drewN | apply rdLe_drew | apply rdLe_set | (apply rdLe_setCell; rotate_left; (focus (first | omega | (simp; done) | (simp; omega)))))))
  · exact by omega
  intro y yp yq y_0 y_1 y_2 y_3
  go_wp2_with fail
  go_loopw [4] (fun i wr => ∃ k : Nat, k ≤ 6 ∧ i = .int .i64 k ∧ LsaLoop w B m x (1 + y) k wr) (fun i _ => 6 - (intOf i).toNat)
  case atStart =>
    refine ⟨0, by omega, rfl, .slice (some ⟨w.heap.size + 1, 0, none⟩) 0 0, [], by simp, ?_, ?_, ?_, ?_, ?_⟩
    · (apply rdLe_mono; (focus (with_reducible (repeat (first | assumption | apply rdLe_alloc | apply rdLe_drewN | apply rdLe_drew | apply rdLe_set | (apply rdLe_setCell; rotate_left; (focus (first | omega | (simp; done) | (simp; omega)))))))); (exact by omega))
    · show World.ownsRow _ (w.heap.size + 1) _ 2 _ 0 []
      with_reducible (repeat (first | exact own_new (g := w.heap.size + 1) (by simp) (Nat.le_refl _) | apply own_drewN | apply World.ownsRow.alloc))
    · with_reducible (repeat (first | (refine box_at _ _ _ ?_; first | rfl | (simp; done)) | apply Box.alloc | apply Box.drewN))
    · with_reducible (repeat (first | (refine box_at _ _ _ ?_; first | rfl | (simp; done)) | apply Box.alloc | apply Box.drewN))
    · (with_reducible (repeat (first | exact only_refl _ _ | apply only_drewN | apply only_drew | apply only_alloc | (apply only_setCell; rotate_left; (focus (first | exact .inl rfl | (exact .inr (by first | omega | (simp; done) | (simp; omega)))))))))
  case round =>
    obtain ⟨k, hk, rfl, hv, es, hel, hR, hown, bN, bA, hG⟩ := hrel
    obtain ⟨ha, hc, rfl⟩ := own_slice hown
    have hne := box_own_ne bA hown (by decide)
    have hge := own_ge hown
    have hBr := rdLe_lt hR
    have hlN := bN.lt
    have hNB : w.heap.size + 1 + 1 ≠ B := by omega
    obtain ⟨c0, c1, c2, f0, f1, f2, l0⟩ := box3 bN
    obtain ⟨d0, d1, d2, g0, g1, g2, l1⟩ := box3 bA
    have HN := Lib.hid bN; have HA := Lib.hid bA; have HO := Lib.hid hown; have HG := Lib.hid hG; have HRd := Lib.hid hR
    have HNE := Lib.hid hne; have HGE := Lib.hid hge
    clear hne hge
    by_cases hk6 : k < 6
    · rcases Bool.eq_false_or_eq_true ((k : Int) == x) with hx | hx
      all_goals
        have hx2 : ((k : Int) != x) = !((k : Int) == x) := rfl
        rw [hx] at hx2
      · go_wp2_with fail
        go_roundw
        case rel => exact ⟨k + 1, by omega, by go_num, _, es, by omega, rdLe_mono HRd.out (by omega), HO.out, HN.out, HA.out, HG.out⟩
        case measure => simp [intOf]; omega
      · have hR := HRd.out
        go_wp2_with fail
        apply pick_op
        · (with_reducible (repeat (first | assumption | apply rdLe_alloc | apply rdLe_drewN | apply rdLe_drew | apply rdLe_set | (apply rdLe_setCell; rotate_left; (focus (first | omega | (simp; done) | (simp; omega)))))))
        · exact by omega
        intro z W z_0 z_1 W_R W_G
        have bN := HN.out.only W_G (by omega)
        have bA := HA.out.only W_G (by omega)
        have o1 := own_only HO.out W_G (by omega)
        have hG1 := only_trans HG.out W_G
        have hR1 : RdLe W.drew B (m + 2 + 2 * k + 1) := W_R
        have hBW := rdLe_lt W_R
        clear c0 c1 c2 f0 f1 f2 l0 d0 d1 d2 g0 g1 g2 l1 hR
        obtain ⟨c0, c1, c2, f0, f1, f2, l0⟩ := box3 bN
        obtain ⟨d0, d1, d2, g0, g1, g2, l1⟩ := box3 bA
        have HN1 := Lib.hid bN; have HA1 := Lib.hid bA; have HO1 := Lib.hid o1; have HG1 := Lib.hid hG1
        clear HN HA HO HG HRd W_G bN bA o1 hG1
        rcases Bool.eq_false_or_eq_true (z == 0) with hz | hz
        rotate_left
        · go_wp2_with fail
          go_roundw
          case rel => exact ⟨k + 1, by omega, by go_num, .slice ha es.length hc, es, by omega, rdLe_mono W_R (by omega), HO1.out, HN1.out, HA1.out, HG1.out⟩
          case measure => simp [intOf]; omega
        · have hK : (k : Int) < 6 := by omega
          have A0 := d2
          go_wp2_with fail
          go_region_law ((first
              | (have _t := w2; refine step_append_lies _ (by rfl) _ _ _ (by rfl) (w.heap.size + 1) 43 i0 _ 2 16 Try.underlying39 hi hz0 hz1 hz2 rfl (by omega) (.slice ha es.length hc) es.length (cells2 es) (by rfl) (by with_reducible (repeat (first | exact o2 | apply own_drewN | apply own_drew | apply World.ownsRow.alloc | (refine own_setCell ?_ (by first | (simp; done) | omega | (simp; omega)) _)))) ⟨w2.heap.size, 0, none⟩ 1 1 [.int .i64 (k:Int), .int .i64 (1 + v)] (by rfl) (by rfl) (World.news_of_block (cs := #[.int .i64 (k:Int), .int .i64 (1 + v)]) (t := 43) (fr := (0, 0)) (heap_alloc_new _ _)) (by simp [Value.oneCell']) (by omega) (by unfold maxLen; omega) (by omega) (by simp; omega) (w2.heap.size + 1) (by simp) ?_; intro g cap w3 hown3 hgrow hat hlt; have bA3 := Box.grown (b := w.heap.size + 1 + 1) (by with_reducible (repeat (first | exact bA2 | apply Box.alloc | apply Box.drewN))) hgrow (fun j hj e => HNE.out (hj.trans (by rw [e]))); have bN3 := Box.grown (b := w.heap.size) (by with_reducible (repeat (first | exact bN2 | apply Box.alloc | apply Box.drewN))) hgrow (fun j hj e => by have := HGE.out j hj; omega); have q3 := box3 bA3; have R3 := rdLe_grown (B := B) (by with_reducible (repeat (first | exact hR2 | apply rdLe_alloc | apply rdLe_drewN))) hgrow (fun j hj => by have := HGE.out j hj; omega); have G3 := only_grown (by with_reducible (repeat (first | exact G2 | apply only_alloc | apply only_drewN))) hgrow (fun j hj => by have := HGE.out j hj; omega))
              | (go_simp; go_at_call 50; apply pick_op; (focus (with_reducible (repeat (first | assumption | apply rdLe_alloc | apply rdLe_drewN | apply rdLe_drew | apply rdLe_set | (apply rdLe_setCell; rotate_left; (focus (first | omega | (simp; done) | (simp; omega)))))))); (focus (exact by omega)); intro v w2 v_0 v_1 hR2 hG2; have bN2 := (HN1.out.drewN 1).only hG2 (by omega); have bA2 := (HA1.out.drewN 1).only hG2 (by omega); have o2 := own_only (own_drewN HO1.out 1) hG2 (by omega); have e2 := (box3 bA2).2.2.1; have G2 := only_trans (only_drewN HG1.out 1) hG2; have l2 := bA2.lt; have hwr : IntKind.i64.wrap (1 + v) = 1 + v := IntWalk.i64_in _ (by omega))))
          all_goals
            have hlast := box_own_ne bA3 hown3 (by decide)
            have HL := Lib.hid hlast
            clear hlast
            go_wp2_with fail
            go_roundw
            case rel =>
              refine ⟨k + 1, by omega, by go_num, .slice (some ⟨g, 0, none⟩) (es.length + 1) cap, es ++ [((k:Int), 1 + v)], by simp; omega, ?_, ?_, bN3.setOther (by first | (simp; done) | (simp; omega)) _, box3_set2 bA3 _, ?_⟩
              · exact rdLe_mono (rdLe_setCell R3 (by first | (simp; done) | (simp; omega)) _) (by omega)
              · exact own_setOther (own_snoc2 hown3) HL.out _
              · exact only_setCell G3 (.inr (by first | (simp; done) | (simp; omega))) _
            case measure => simp [intOf]; omega
    · have hR := HRd.out
      go_wp2_with fail
      apply pick_op
      · (with_reducible (repeat (first | assumption | apply rdLe_alloc | apply rdLe_drewN | apply rdLe_drew | apply rdLe_set | (apply rdLe_setCell; rotate_left; (focus (first | omega | (simp; done) | (simp; omega)))))))
      · exact by omega
      intro z W z_0 z_1 W_R W_G
      have bN := HN.out.only W_G (by omega)
      have bA := HA.out.only W_G (by omega)
      have o1 := own_only HO.out W_G (by omega)
      have hG1 := only_trans HG.out W_G
      have hBW := rdLe_lt W_R
      clear c0 c1 c2 f0 f1 f2 l0 d0 d1 d2 g0 g1 g2 l1 hR
      obtain ⟨c0, c1, c2, f0, f1, f2, l0⟩ := box3 bN
      obtain ⟨d0, d1, d2, g0, g1, g2, l1⟩ := box3 bA
      have HN1 := Lib.hid bN; have HA1 := Lib.hid bA; have HO1 := Lib.hid o1; have HG1 := Lib.hid hG1
      clear HN HA HO HG HRd W_G bN bA o1 hG1
      rcases Bool.eq_false_or_eq_true (z == 0) with hz0' | hz0'
      · go_wp2_with fail
        apply pick_op
        · (with_reducible (repeat (first | assumption | apply rdLe_alloc | apply rdLe_drewN | apply rdLe_drew | apply rdLe_set | (apply rdLe_setCell; rotate_left; (focus (first | omega | (simp; done) | (simp; omega)))))))
        · exact by omega
        intro y2 W2 y2_0 y2_1 W2_R W2_G
        have bN := (HN1.out.alloc (.cells #[.int .i64 0, .int .i64 99, .int .i64 100] 3)).only W2_G (by omega)
        have bA := (HA1.out.alloc (.cells #[.int .i64 0, .int .i64 99, .int .i64 100] 3)).only W2_G (by omega)
        have bT := (box_new W #[.int .i64 0, .int .i64 99, .int .i64 100] 3).only W2_G (by omega)
        have o1 := own_only (HO1.out.alloc (.cells #[.int .i64 0, .int .i64 99, .int .i64 100] 3)) W2_G (by omega)
        have G2 := only_trans (only_alloc HG1.out _) W2_G
        have hBW2 := rdLe_lt W2_R
        clear c0 c1 c2 f0 f1 f2 l0 d0 d1 d2 g0 g1 g2 l1 W2_G
        obtain ⟨c0, c1, c2, f0, f1, f2, l0⟩ := box3 bN
        obtain ⟨d0, d1, d2, g0, g1, g2, l1⟩ := box3 bA
        obtain ⟨t0, t1, t2, s0, s1, s2, l2⟩ := box3 bT
        have O1 := Lib.hid o1; have HG2 := Lib.hid G2
        clear bN bA bT o1 G2
        have h3 : y2 = 0 ∨ y2 = 1 ∨ y2 = 2 := by omega
        rcases h3 with rfl | rfl | rfl
        all_goals
          go_wp2_with fail
          apply bodyPost_ret
          · simp [results, Try.results74, go_sem, c0, c1, c2, f0, f1, f2]
            rfl
          · rfl
          · refine ⟨_, _, _, es, rfl, by omega, (OwnR.of (lo := w.heap.size + 1) ?_).mono (by omega) (Nat.le_refl _), ?_, ?_⟩
            · with_reducible (repeat (first | exact O1.out | apply own_drewN | apply World.ownsRow.alloc | (refine own_setCell ?_ (by first | (simp; done) | omega | (simp; omega)) _) | (refine own_setOther ?_ HNE.out _)))
            · (apply rdLe_mono; (focus (with_reducible (repeat (first | assumption | apply rdLe_alloc | apply rdLe_drewN | apply rdLe_drew | apply rdLe_set | (apply rdLe_setCell; rotate_left; (focus (first | omega | (simp; done) | (simp; omega)))))))); (exact by omega))
            · with_reducible (repeat (first | exact HG2.out | apply only_alloc | apply only_drewN | (refine only_setCell ?_ (.inr (by first | (simp; done) | (simp; omega))) _)))
      rcases Bool.eq_false_or_eq_true (z == 1) with hz1' | hz1'
      · go_wp2_with fail
        apply pick_op
        · (with_reducible (repeat (first | assumption | apply rdLe_alloc | apply rdLe_drewN | apply rdLe_drew | apply rdLe_set | (apply rdLe_setCell; rotate_left; (focus (first | omega | (simp; done) | (simp; omega)))))))
        · exact by omega
        intro y2 W2 y2_0 y2_1 W2_R W2_G
        have bN := HN1.out.only W2_G (by omega)
        have bA := HA1.out.only W2_G (by omega)
        have o1 := own_only HO1.out W2_G (by omega)
        have G2 := only_trans HG1.out W2_G
        have hBW2 := rdLe_lt W2_R
        clear c0 c1 c2 f0 f1 f2 l0 d0 d1 d2 g0 g1 g2 l1 W2_G
        obtain ⟨c0, c1, c2, f0, f1, f2, l0⟩ := box3 bN
        obtain ⟨d0, d1, d2, g0, g1, g2, l1⟩ := box3 bA
        have O1 := Lib.hid o1; have HG2 := Lib.hid G2
        clear bN bA o1 G2
        go_wp2_with fail
        apply bodyPost_ret
        · simp [results, Try.results74, go_sem, c0, c1, c2, f0, f1, f2]
          rfl
        · rfl
        · refine ⟨_, _, _, es, rfl, by omega, (OwnR.of (lo := w.heap.size + 1) ?_).mono (by omega) (Nat.le_refl _), ?_, ?_⟩
          · with_reducible (repeat (first | exact O1.out | apply own_drewN | apply World.ownsRow.alloc | (refine own_setCell ?_ (by first | (simp; done) | omega | (simp; omega)) _) | (refine own_setOther ?_ HNE.out _)))
          · (apply rdLe_mono; (focus (with_reducible (repeat (first | assumption | apply rdLe_alloc | apply rdLe_drewN | apply rdLe_drew | apply rdLe_set | (apply rdLe_setCell; rotate_left; (focus (first | omega | (simp; done) | (simp; omega)))))))); (exact by omega))
          · with_reducible (repeat (first | exact HG2.out | apply only_alloc | apply only_drewN | (refine only_setCell ?_ (.inr (by first | (simp; done) | (simp; omega))) _)))
      rcases Bool.eq_false_or_eq_true (z == 2) with hz2' | hz2'
      · go_wp2_with fail
        go_region_law ((first
              | (have _t := w3; refine step_append_lies _ (by rfl) _ _ _ (by rfl) (w.heap.size + 1) 43 i0 _ 2 16 Try.underlying39 hi hz0 hz1 hz2 rfl (by omega) (.slice ha es.length hc) es.length (cells2 es) (by rfl) (by with_reducible (repeat (first | exact o3 | apply own_drewN | apply own_drew | apply World.ownsRow.alloc | (refine own_setCell ?_ (by first | (simp; done) | omega | (simp; omega)) _)))) ⟨w3.heap.size, 0, none⟩ 1 1 [.int .i64 (v - 1), .int .i64 v'] (by rfl) (by rfl) (World.news_of_block (cs := #[.int .i64 (v - 1), .int .i64 v']) (t := 43) (fr := (0, 0)) (heap_alloc_new _ _)) (by simp [Value.oneCell']) (by omega) (by unfold maxLen; omega) (by omega) (by simp; omega) (w3.heap.size + 1) (by simp) ?_; intro g cap w4 hown3 hgrow hat hlt; have bA4 := Box.grown (b := w.heap.size + 1 + 1) (by with_reducible (repeat (first | exact bA3 | apply Box.alloc | apply Box.drewN))) hgrow (fun j hj e => HNE.out (hj.trans (by rw [e]))); have bN4 := Box.grown (b := w.heap.size) (by with_reducible (repeat (first | exact bN3 | apply Box.alloc | apply Box.drewN))) hgrow (fun j hj e => by have := HGE.out j hj; omega); have q4 := box3 bA4; have r4 := box3 bN4; have R4 := rdLe_grown (B := B) (by with_reducible (repeat (first | exact hR3 | apply rdLe_alloc | apply rdLe_drewN))) hgrow (fun j hj => by have := HGE.out j hj; omega); have G3 := only_grown (by with_reducible (repeat (first | exact G3' | apply only_alloc | apply only_drewN))) hgrow (fun j hj => by have := HGE.out j hj; omega))
              | (have _t := w2; go_simp; go_at_call 50; apply pick_op; (focus (with_reducible (repeat (first | assumption | apply rdLe_alloc | apply rdLe_drewN | apply rdLe_drew | apply rdLe_set | (apply rdLe_setCell; rotate_left; (focus (first | omega | (simp; done) | (simp; omega)))))))); (focus (exact by omega)); intro v' w3 v_2 v_3 hR3 hG3; have bN3 := bN2.only hG3 (by omega); have bA3 := bA2.only hG3 (by omega); have o3 := own_only o2 hG3 (by omega); have e3 := (box3 bA3).2.2.1; have G3' := only_trans G2 hG3; have l3 := bA3.lt)
              | (go_simp; go_at_call 50; apply pick_op; (focus (with_reducible (repeat (first | assumption | apply rdLe_alloc | apply rdLe_drewN | apply rdLe_drew | apply rdLe_set | (apply rdLe_setCell; rotate_left; (focus (first | omega | (simp; done) | (simp; omega)))))))); (focus (exact by omega)); intro v w2 v_0 v_1 hR2 hG2; have bN2 := (HN1.out.drewN 1).only hG2 (by omega); have bA2 := (HA1.out.drewN 1).only hG2 (by omega); have o2 := own_only (own_drewN HO1.out 1) hG2 (by omega); have e2 := (box3 bA2).2.2.1; have G2 := only_trans (only_drewN HG1.out 1) hG2; have l2 := bA2.lt; have hwr : IntKind.i64.wrap (v - 1) = v - 1 := IntWalk.i64_in _ (by omega))))
        all_goals
          have hlast := box_own_ne bA4 hown3 (by decide)
          have HL := Lib.hid hlast
          clear hlast c0 c1 c2 f0 f1 f2 l0
          obtain ⟨c0, c1, c2, f0, f1, f2, l0⟩ := box3 bN4
          go_wp2_with fail
          apply bodyPost_ret
          · simp [results, Try.results74, go_sem, c0, c1, c2, f0, f1, f2]
            rfl
          · rfl
          · refine ⟨_, _, _, es ++ [(v - 1, v')], rfl, by simp; omega, (OwnR.of (lo := w.heap.size + 1) ?_).mono (by omega) (Nat.le_refl _), ?_, ?_⟩
            · with_reducible (repeat (first | exact (own_snoc2 hown3) | apply own_drewN | apply World.ownsRow.alloc | (refine own_setCell ?_ (by first | (simp; done) | omega | (simp; omega)) _) | (refine own_setOther ?_ HL.out _)))
            · (apply rdLe_mono; (focus (with_reducible (repeat (first | assumption | apply rdLe_alloc | apply rdLe_drewN | apply rdLe_drew | apply rdLe_set | (apply rdLe_setCell; rotate_left; (focus (first | omega | (simp; done) | (simp; omega)))))))); (exact by omega))
            · with_reducible (repeat (first | exact G3 | apply only_alloc | apply only_drewN | (refine only_setCell ?_ (.inr (by first | (simp; done) | (simp; omega))) _)))
      · go_wp2_with fail
        apply bodyPost_ret
        · simp [results, Try.results74, go_sem, c0, c1, c2, f0, f1, f2]
          rfl
        · rfl
        · refine ⟨_, _, _, es, rfl, by omega, (OwnR.of (lo := w.heap.size + 1) ?_).mono (by omega) (Nat.le_refl _), ?_, ?_⟩
          · with_reducible (repeat (first | exact HO1.out | apply own_drewN | apply World.ownsRow.alloc | (refine own_setCell ?_ (by first | (simp; done) | omega | (simp; omega)) _) | (refine own_setOther ?_ HNE.out _)))
          · (apply rdLe_mono; (focus (with_reducible (repeat (first | assumption | apply rdLe_alloc | apply rdLe_drewN | apply rdLe_drew | apply rdLe_set | (apply rdLe_setCell; rotate_left; (focus (first | omega | (simp; done) | (simp; omega)))))))); (exact by omega))
          · with_reducible (repeat (first | exact HG1.out | apply only_alloc | apply only_drewN | (refine only_setCell ?_ (.inr (by first | (simp; done) | (simp; omega))) _)))

def SomeLsa (w : World) (e : Ending) (w' : World) : Prop := ∃ o s u es, e = .returned (.agg #[.int .i64 o, .int .i64 s, u]) ∧ es.length ≤ 7 ∧ PairsAt w' u es ∧ Below w.heap.size w w'
end Go.Proofs.Ytnnkdoomjkccgaa
