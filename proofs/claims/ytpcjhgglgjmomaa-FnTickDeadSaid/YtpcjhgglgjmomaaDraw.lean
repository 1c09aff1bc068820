/- The draws: adjacencies, announcements. -/
import Derived.Test.YtpcjhgglgjmomaaPick
namespace Go.Proofs.Ytpcjhgglgjmomaa
open Go.RowKit

def DrawAdjPost (w : World) (B : Nat) (m : Int) (e : Ending) (w' : World) : Prop :=
  ∃ s a : Int, e = .returned (.agg #[.int .i64 s, .int .i64 a]) ∧ RdLe w' B (m + 20) ∧ w.grownBy w' (some B)

set_option maxHeartbeats 400000 in
theorem drawAdj (B : Nat) (m : Int) (w : World) (h : RdLe w B m) (hm : m < 1000000000000) : Calls Try.prog 40 #[.pointer (some ⟨B, 0, none⟩)] w (DrawAdjPost w B m) := by
  have hB := rdLe_lt h
  have hn1 : w.heap.size ≠ B := by omega
  have hn2 : ∀ k, w.heap.size + k ≠ B := fun k => by omega
  obtain ⟨dS, dA, dD, dZ⟩ := drewN_out
  go_enter Try.func40, Try.ntmps40
  go_wp2_with (go_at_call 50; apply pick_step; (focus (with_reducible (repeat (first | assumption | apply rdLe_alloc | apply rdLe_drewN | apply rdLe_drew | apply rdLe_set | (apply rdLe_setCell; rotate_left; (focus (first | omega | (simp; done) | (simp; omega)))))))); (focus (exact by omega)); intro v p q hv0 hv1 hp0 hp1)
  all_goals
    apply bodyPost_ret
    · simp [results, Try.results40, go_sem]
      rfl
    · rfl
    · exact ⟨_, _, rfl, by (apply rdLe_mono; (focus (with_reducible (repeat (first | assumption | apply rdLe_alloc | apply rdLe_drewN | apply rdLe_drew | apply rdLe_set | (apply rdLe_setCell; rotate_left; (focus (first | omega | (simp; done) | (simp; omega)))))))); (exact by omega)), by (with_reducible (repeat (first | exact only_refl _ _ | apply only_drewN | apply only_drew | apply only_alloc | (apply only_setCell; rotate_left; (focus (first | exact .inl rfl | (exact .inr (by first | omega | (simp; done) | (simp; omega)))))))))⟩
def SomeAdj (w : World) (e : Ending) (w' : World) : Prop := ∃ s a : Int, e = .returned (.agg #[.int .i64 s, .int .i64 a]) ∧ Below w.heap.size w w'
theorem drawTick (v : Value) (w : World) (h : CodeAt w v) : Calls Try.prog 20 #[v] w (SomeAdj w) := by
  go_enter Try.func20, Try.ntmps20
  go_wp2_with fail
  refine (open_any v _ (w.heap.size + 1) (by simp) (codeAt_alloc h _)).mono ?_
  rintro e w' ⟨rfl, hR, hb, hlt⟩
  have b1 := (box_new w #[.int .i64 0, .int .i64 0] 25).below hb (by omega)
  go_wp2_with fail
  refine (drawAdj _ 0 _ hR (by omega)).mono ?_
  rintro e w1 ⟨s, a, rfl, hR2, hO⟩
  obtain ⟨c0, c1, f0, f1, hl⟩ := box2 (b1.only hO (by omega))
  go_wp2_with fail
  apply bodyPost_ret
  · simp [results, Try.results20, go_sem, c0, c1, f0, f1]
    rfl
  · rfl
  · refine ⟨_, _, rfl, ?_⟩
    have hb1 : Below w.heap.size w w' := (Below.alloc (Below.refl _ _) (Nat.le_refl _) _).trans (hb.mono (by omega))
    have hb2 := below_only hb1 (Nat.le_refl _) (by omega) hO
    exact (by with_reducible (repeat (first | (refine below_drewN ?_ _) | (refine Below.drew ?_) | (refine below_alloc ?_ (by first | omega | (simp; done) | (simp; omega)) _) | (refine Below.setCell ?_ (by first | omega | (simp; done) | (simp; omega)) _) | exact Below.refl _ _ | assumption | (refine below_call ?_ (by first | omega | (simp; done) | (simp; omega)) (by assumption)))))

theorem infoInt : (Try.prog.info? 3).map (fun i => (i.zero, i.size, i.bytes)) = some (some (.int .i64 0), 1, 8) := by kernel_rfl
def SomeHello (w : World) (e : Ending) (w' : World) : Prop := ∃ (s a me : Int) (v : Value) (l : List Int), e = .returned (.tuple #[.agg #[.int .i64 s, .int .i64 a], .int .i64 me, v]) ∧ IntsAt w' v l ∧ Below w.heap.size w w'
set_option maxHeartbeats 2000000 in
theorem drawHello (v : Value) (w : World) (h : CodeAt w v) : Calls Try.prog 31 #[v] w (SomeHello w) := by
  obtain ⟨i0, hi, hz0, hz1, hz2⟩ := info_parts infoInt
  have dE : ∀ W : World, W.drew = W.drewN 1 := fun _ => rfl
  obtain ⟨B, hB⟩ : ∃ B, w.heap.size + 1 = B := ⟨_, rfl⟩
  obtain ⟨dS, dA, dD, dZ⟩ := drewN_out
  go_enter Try.func31, Try.ntmps31
  go_wp2_with fail
  refine (open_any v _ B (by simpa using hB) (codeAt_alloc h _)).mono ?_
  rintro e w' ⟨rfl, hR, hb, hlt⟩
  have b1 := (box_new w #[.int .i64 0, .int .i64 0] 25).below hb (by omega)
  have hW1 : Below w.heap.size w w' := (Below.alloc (Below.refl _ _) (Nat.le_refl _) _).trans (hb.mono (by omega))
  have HB := Lib.hid hB
  go_wp2_with fail
  refine (drawAdj _ 0 _ hR (by omega)).mono ?_
  rintro e w1 ⟨s, a, rfl, hR2, hO⟩
  have b2 := b1.only hO (by omega)
  have hW2 := below_only hW1 (Nat.le_refl _) (by omega) hO
  have hBl := rdLe_lt hR2
  have hBw : w.heap.size < B := by omega
  obtain ⟨A, hA⟩ : ∃ A, w1.heap.size = A := ⟨_, rfl⟩
  have hAB : B < A := by omega
  have r3 : RdLe ((w1.alloc (.cells #[.int .i64 s, .int .i64 a] 25)).alloc (.cells #[] 3)) B 20 := rdLe_mono (rdLe_alloc (rdLe_alloc hR2 _) _) (by omega)
  have b3 := (b2.alloc (.cells #[.int .i64 s, .int .i64 a] 25)).alloc (.cells #[] 3)
  have a3 := (box_new w1 #[.int .i64 s, .int .i64 a] 25).alloc (.cells #[] 3)
  have o3 := own_empty (w1.alloc (.cells #[.int .i64 s, .int .i64 a] 25)) (A + 1) 3 1 (by simp; omega)
  rw [World.size_alloc] at o3
  have W3 := below_alloc (below_alloc hW2 (Nat.le_refl _) (.cells #[.int .i64 s, .int .i64 a] 25)) (Nat.le_refl _) (.cells #[] 3)
  rw [hA] at a3 o3
  have HA := Lib.hid hA
  have R3 := Lib.hid r3
  clear hB hb hO hW1 hR b1 r3 hA hR2 b2 hW2
  go_wp2_with fail
  rw [HA.out]
  go_loopw [7, 8] (fun hv i wr => ∃ (k : Nat) (l : List Int), k ≤ 8 ∧ i = .int .i64 k ∧ l.length ≤ k ∧ RdLe wr B (20 + k) ∧ wr.ownsRow (A + 1) 3 1 hv l.length (l.map (Value.int .i64)) ∧ Box wr w.heap.size #[.int .i64 0, .int .i64 0] 25 ∧ Box wr A #[.int .i64 s, .int .i64 a] 25 ∧ Below w.heap.size w wr)
    (fun _ i _ => 8 - (intOf i).toNat)
  case atStart => exact ⟨0, [], by omega, rfl, by simp, R3.out, o3, b3, a3, W3⟩
  case round =>
    obtain ⟨k, l, hk, rfl, hl, hR, hown, b4, a4, W4⟩ := hrel
    clear R3 o3 b3 a3 W3
    by_cases hk8 : k < 8
    · have hA4 := a4.lt
      go_wp2_with (first | (at_builtin; refine wpList_append_own _ rfl _ _ 48 rfl (A + 1) 3 i0 (.int .i64 0) 1 8 Try.underlying48 hi hz0 hz1 hz2 rfl (by decide) _ _ _ rfl (own_drewN (World.ownsRow.alloc (own_setCell hown (by simp; omega) _) _) _) ⟨wr.heap.size, 0, none⟩ 1 1 [.int .i64 (k:Int)] rfl rfl (one_cell (by simp [go_sem])) (one_ok _ _) (by unfold maxLen; omega) (by omega) (by simp; omega) ?_; intro v' w2 hown2 hgrow _) | (go_at_call 50; apply pick_step; (focus (with_reducible (repeat (first | assumption | apply rdLe_alloc | apply rdLe_drewN | apply rdLe_drew | apply rdLe_set | (apply rdLe_setCell; rotate_left; (focus (first | omega | (simp; done) | (simp; omega)))))))); (focus (exact by omega)); intro v p q hv0 hv1 hp0 hp1))
      · rw [map_snoc] at hown2
        go_wp2_with fail
        have hge := own_ge hown
        go_roundw
        case rel =>
          refine ⟨k + 1, l ++ [(k:Int)], by omega, by go_num, by simp; omega, ?_, by rw [List.length_append]; exact hown2, ?_, ?_, ?_⟩
          · exact rdLe_grown (rdLe_drewN (rdLe_alloc (rdLe_set hR hp0 (by omega)) _) _) hgrow (fun j hj => by have := hge j hj; omega)
          · exact (((b4.setOther (a := ⟨B, 1, none⟩) (by simp; omega) _).alloc _).drewN _).grown hgrow (fun j hj => by have := hge j hj; omega)
          · exact (((a4.setOther (a := ⟨B, 1, none⟩) (by simp; omega) _).alloc _).drewN _).grown hgrow (fun j hj => by have := hge j hj; omega)
          · exact Below.grown (below_drewN (below_alloc (Below.setCell W4 (p := ⟨B, 1, none⟩) (by simp; omega) _) (Nat.le_refl _) _) _) hgrow (by simp; omega) (fun j hj => by have := hge j hj; omega)
        case measure => simp [intOf]; omega
      · go_roundw
        case rel =>
          exact ⟨k + 1, l, by omega, by go_num, by omega, rdLe_drewN (rdLe_set hR hp0 (by omega)) _, own_drewN (own_setCell hown (by simp; omega) _) _, (b4.setOther (a := ⟨B, 1, none⟩) (by simp; omega) _).drewN _, (a4.setOther (a := ⟨B, 1, none⟩) (by simp; omega) _).drewN _, below_drewN (Below.setCell W4 (p := ⟨B, 1, none⟩) (by simp; omega) _) _⟩
        case measure => simp [intOf]; omega
    · have hA4 := a4.lt
      obtain ⟨c0, c1, f0, f1, l0⟩ := box2 b4
      obtain ⟨d0, d1, g0, g1, l1⟩ := box2 a4
      go_wp2_with (first | (at_builtin; refine wpList_append_own _ rfl _ _ 48 rfl (A + 1) 3 i0 (.int .i64 0) 1 8 Try.underlying48 hi hz0 hz1 hz2 rfl (by decide) _ _ _ rfl (own_drewN (World.ownsRow.alloc (own_setCell (own_setCell hown (by simp; omega) _) (by simp; omega) _) _) _) ⟨wr.heap.size, 0, none⟩ 1 1 [.int .i64 (v - 1)] rfl rfl (one_cell (by simp [go_sem])) (one_ok _ _) (by unfold maxLen; omega) (by omega) (by simp; omega) ?_; intro v' w2 hown2 hgrow _) | (go_at_call 50; apply pick_step; (focus (with_reducible (repeat (first | assumption | apply rdLe_alloc | apply rdLe_drewN | apply rdLe_drew | apply rdLe_set | (apply rdLe_setCell; rotate_left; (focus (first | omega | (simp; done) | (simp; omega)))))))); (focus (exact by omega)); intro v p q hv0 hv1 hp0 hp1))
      · rw [map_snoc] at hown2
        go_wp2_with fail
        have hge := own_ge hown
        have R5 : RdLe w2 B 60 := by
          apply rdLe_grown (hg := hgrow)
          · (apply rdLe_mono; (focus (with_reducible (repeat (first | assumption | apply rdLe_alloc | apply rdLe_drewN | apply rdLe_drew | apply rdLe_set | (apply rdLe_setCell; rotate_left; (focus (first | omega | (simp; done) | (simp; omega)))))))); (exact by omega))
          · intro j hj
            have := hge j hj
            omega
        have b5 := (((b4.setOther (a := ⟨B, 1, none⟩) (by simp; omega) _).setOther (a := ⟨B, 1, none⟩) (by simp; omega) _).alloc _ |>.drewN _).grown hgrow (fun j hj => by have := hge j hj; omega)
        have a5 := (((a4.setOther (a := ⟨B, 1, none⟩) (by simp; omega) _).setOther (a := ⟨B, 1, none⟩) (by simp; omega) _).alloc _ |>.drewN _).grown hgrow (fun j hj => by have := hge j hj; omega)
        have W5 : Below w.heap.size w w2 := Below.grown (below_drewN (below_alloc (Below.setCell (Below.setCell W4 (p := ⟨B, 1, none⟩) (by simp; omega) _) (p := ⟨B, 1, none⟩) (by simp; omega) _) (Nat.le_refl _) _) _) hgrow (by simp; omega) (fun j hj => by have := hge j hj; omega)
        obtain ⟨L5, I5⟩ : ∃ L, IntsAt w2 v' L := ⟨_, ints_of_owns (by rw [List.length_append]; exact hown2)⟩
        have hg5 := own_ge hown2
        clear hgrow hown hown2 hR b4 a4 W4 c0 c1 f0 f1 d0 d1 g0 g1
        obtain ⟨c0, c1, f0, f1, l0⟩ := box2 b5
        obtain ⟨d0, d1, g0, g1, l1⟩ := box2 a5
        clear b5 a5
        go_region_with (go_at_call 50; apply pick_step; (focus (with_reducible (repeat (first | assumption | apply rdLe_alloc | apply rdLe_drewN | apply rdLe_drew | apply rdLe_set | (apply rdLe_setCell; rotate_left; (focus (first | omega | (simp; done) | (simp; omega)))))))); (focus (exact by omega)); intro v p q hv0 hv1 hp0 hp1)
        all_goals go_wp2_with fail
        all_goals
          apply bodyPost_ret
          · simp [results, Try.results31, go_sem, c0, c1, f0, f1]
            rfl
          · rfl
          · refine ⟨_, _, _, _, L5, rfl, ?_, ?_⟩
            · exact IntsAt.drewN (IntsAt.set (IntsAt.set (IntsAt.set (IntsAt.set (IntsAt.set I5 (fun j hj => by have := hg5 j hj; simp; omega) _) (fun j hj => by have := hg5 j hj; simp; omega) _) (fun j hj => by have := hg5 j hj; simp; omega) _) (fun j hj => by have := hg5 j hj; simp; omega) _) (fun j hj => by have := hg5 j hj; simp; omega) _) _
            · clear c0 c1 f0 f1 d0 d1 g0 g1 I5 R5
              clear hg5
              exact (by with_reducible (repeat (first | (refine below_drewN ?_ _) | (refine Below.drew ?_) | (refine below_alloc ?_ (by first | omega | (simp; done) | (simp; omega)) _) | (refine Below.setCell ?_ (by first | omega | (simp; done) | (simp; omega)) _) | exact Below.refl _ _ | assumption | (refine below_call ?_ (by first | omega | (simp; done) | (simp; omega)) (by assumption)))))
      · have hg5 := own_ge hown
        obtain ⟨w2, hw2⟩ : ∃ w2, w2 = (wr.setCell ⟨B, 1, none⟩ (.int .i64 p)).drewN q := ⟨_, rfl⟩
        rw [← hw2]
        have R5 : RdLe w2 B 60 := by
          rw [hw2]
          (apply rdLe_mono; (focus (with_reducible (repeat (first | assumption | apply rdLe_alloc | apply rdLe_drewN | apply rdLe_drew | apply rdLe_set | (apply rdLe_setCell; rotate_left; (focus (first | omega | (simp; done) | (simp; omega)))))))); (exact by omega))
        have b5 := (b4.setOther (a := ⟨B, 1, none⟩) (by simp; omega) (.int .i64 p)).drewN q
        have a5 := (a4.setOther (a := ⟨B, 1, none⟩) (by simp; omega) (.int .i64 p)).drewN q
        have W5 : Below w.heap.size w w2 := by rw [hw2]; exact below_drewN (Below.setCell W4 (p := ⟨B, 1, none⟩) (by simp; omega) _) _
        obtain ⟨L5, I5⟩ : ∃ L, IntsAt w2 _ L := ⟨l, by rw [hw2]; exact ints_of_owns (own_drewN (own_setCell hown (by simp; omega) _) _)⟩
        rw [← hw2] at b5 a5
        clear hw2 hown hR b4 a4 W4 c0 c1 f0 f1 d0 d1 g0 g1
        obtain ⟨c0, c1, f0, f1, l0⟩ := box2 b5
        obtain ⟨d0, d1, g0, g1, l1⟩ := box2 a5
        clear b5 a5
        go_region_with (go_at_call 50; apply pick_step; (focus (with_reducible (repeat (first | assumption | apply rdLe_alloc | apply rdLe_drewN | apply rdLe_drew | apply rdLe_set | (apply rdLe_setCell; rotate_left; (focus (first | omega | (simp; done) | (simp; omega)))))))); (focus (exact by omega)); intro v p q hv0 hv1 hp0 hp1)
        all_goals go_wp2_with fail
        all_goals
          apply bodyPost_ret
          · simp [results, Try.results31, go_sem, c0, c1, f0, f1]
            rfl
          · rfl
          · refine ⟨_, _, _, _, L5, rfl, ?_, ?_⟩
            · exact IntsAt.drewN (IntsAt.set (IntsAt.set (IntsAt.set (IntsAt.set (IntsAt.set I5 (fun j hj => by have := hg5 j hj; simp; omega) _) (fun j hj => by have := hg5 j hj; simp; omega) _) (fun j hj => by have := hg5 j hj; simp; omega) _) (fun j hj => by have := hg5 j hj; simp; omega) _) (fun j hj => by have := hg5 j hj; simp; omega) _) _
            · clear c0 c1 f0 f1 d0 d1 g0 g1 I5 R5
              clear hg5
              exact (by with_reducible (repeat (first | (refine below_drewN ?_ _) | (refine Below.drew ?_) | (refine below_alloc ?_ (by first | omega | (simp; done) | (simp; omega)) _) | (refine Below.setCell ?_ (by first | omega | (simp; done) | (simp; omega)) _) | exact Below.refl _ _ | assumption | (refine below_call ?_ (by first | omega | (simp; done) | (simp; omega)) (by assumption)))))
end Go.Proofs.Ytpcjhgglgjmomaa
