/- The draw of an adjacency with two lists of announcements: DrawAdjacencySync. -/
import Derived.Test.YtidcpdolcbbnjaaDrawDb2
namespace Go.Proofs.Ytidcpdolcbbnjaa
open Go.RowKit

theorem OwnLs.low {w : World} {lo hi : Nat} {v : Value} {db : List LsaD} {us : List Value} (h : OwnLs w lo hi 26 69 v db us) {p : Addr} (hp : p.block < lo) (u : Value) : OwnLs (w.setCell p u) lo hi 26 69 v db us :=
  ⟨h.row.set hp u, h.own.set hp u⟩
def SomeSync (w : World) (e : Ending) (w' : World) : Prop := ∃ (s a : Int) (v u : Value) (x y : List LsaD), e = .returned (.tuple #[.agg #[.int .i64 s, .int .i64 a], v, u]) ∧ LsasAt w' v x ∧ LsasAt w' u y ∧ Below w.heap.size w w'
set_option maxRecDepth 100000 in
set_option maxHeartbeats 2000000 in
theorem drawSync (v : Value) (w : World) (h : CodeAt w v) : Calls Try.prog 26 #[v] w (SomeSync w) := by
  obtain ⟨B, hB⟩ : ∃ B, w.heap.size + 1 = B := ⟨_, rfl⟩
  obtain ⟨dS, dA, dD, dZ⟩ := drewN_out
  have HC := Lib.hid (codeAt_alloc h (.cells #[.int .i64 0, .int .i64 0] 45))
  have HB := Lib.hid hB
  have hB' : (w.alloc (.cells #[.int .i64 0, .int .i64 0] 45)).heap.size = B := by simpa using hB
  have HB2 := Lib.hid hB'
  have hwB : w.heap.size < B := by omega
  clear hB hB' h
  go_enter Try.func26, Try.ntmps26
  go_wp2_with fail
  refine (open_any v _ B HB2.out HC.out).mono ?_
  rintro e w1 ⟨rfl, hR1, hb1, hlt1⟩
  have R := Lib.hid ((box_new w #[.int .i64 0, .int .i64 0] 45).below hb1 (by have := HB.out; omega))
  have B1 : Hid (Below w.heap.size w w1) := Lib.hid ((Below.alloc (Below.refl _ _) (Nat.le_refl _) _).trans (hb1.mono (by omega)))
  have HR1 := Lib.hid hR1
  clear hb1 hR1
  go_wp2_with fail
  refine (drawAdj B 0 _ HR1.out (by omega)).mono ?_
  rintro e w2 ⟨s, a, rfl, hR2, hG2⟩
  have R2 := Lib.hid (R.out.only hG2 (by omega))
  have B2 := Lib.hid (below_only B1.out (Nat.le_refl _) (by omega) hG2)
  have hs2 := hG2.size
  obtain ⟨R_0, R_1, R_2, R_3, R_4⟩ := box2 R2.out
  have hR3 : RdLe (w2.alloc (.cells #[.int .i64 s, .int .i64 a] 45)) B 20 := rdLe_mono (rdLe_alloc hR2 _) (by omega)
  have HR3 := Lib.hid hR3
  have hB3 : Below w.heap.size w (w2.alloc (.cells #[.int .i64 s, .int .i64 a] 45)) := by have hB := B2.out; exact (by with_reducible (repeat (first | (refine below_drewN ?_ _) | (refine Below.drew ?_) | (refine below_alloc ?_ (by first | omega | (simp; done) | (simp; omega)) _) | (refine Below.setCell ?_ (by first | omega | (simp; done) | (simp; omega)) _) | exact Below.refl _ _ | assumption | (refine below_call ?_ (by first | omega | (simp; done) | (simp; omega)) (by assumption)))))
  have HB3 := Lib.hid hB3
  have HA3 := Lib.hid (box_new w2 #[.int .i64 s, .int .i64 a] 45)
  have HR4 := Lib.hid (R2.out.alloc (.cells #[.int .i64 s, .int .i64 a] 45))
  clear hG2 hR2 hR3 hB3
  go_wp2_with fail
  refine (drawDb B 20 _ HR3.out (by omega)).mono ?_
  rintro e w3 ⟨vx, x, usx, rfl, hO, hsm, _, hRd, hG⟩
  have hs3 := hG.size
  rw [World.size_alloc] at hs3
  have hBl := rdLe_lt HR1.out
  have A4 := Lib.hid (HA3.out.only hG (by omega))
  have R4 := Lib.hid (HR4.out.only hG (by omega))
  have B4 := Lib.hid (below_only HB3.out (Nat.le_refl _) (by omega) hG)
  have HO := Lib.hid hO; have HSM := Lib.hid hsm
  have HRd : Hid (RdLe w3 B 420) := Lib.hid (rdLe_mono hRd (by omega))
  obtain ⟨xa, xc, rfl⟩ := own_slice hO.row.1
  clear hO hsm hRd hG R_0 R_1 R_2 R_3 R_4
  have hRd := HRd.out
  go_wp2_with fail
  apply pick_op
  · (with_reducible (repeat (first | assumption | apply rdLe_alloc | apply rdLe_drewN | apply rdLe_drew | apply rdLe_set | (apply rdLe_setCell; rotate_left; (focus (first | omega | (simp; done) | (simp; omega)))))))
  · exact by omega
  intro z w4 z_0 z_1 w4_R w4_G
  have A5 := Lib.hid (A4.out.only w4_G (by omega))
  have R5 := Lib.hid (R4.out.only w4_G (by omega))
  have B5 := Lib.hid (below_only B4.out (Nat.le_refl _) (by omega) w4_G)
  have HO5 := Lib.hid (HO.out.only w4_G (by simp; omega))
  have hs4 := w4_G.size
  have HRd5 := Lib.hid w4_R
  obtain ⟨R_0, R_1, R_2, R_3, R_4⟩ := box2 R5.out
  obtain ⟨A_0, A_1, A_2, A_3, A_4⟩ := box2 A5.out
  have HOD : Hid (OwnLs w4.drew (w2.alloc (.cells #[.int .i64 s, .int .i64 a] 45)).heap.size w3.heap.size 26 69 (.slice xa x.length xc) x usx) := Lib.hid (HO5.out.drewN 1)
  have HRD : Hid (RdLe w4.drew B 421) := Lib.hid (rdLe_mono w4_R (by omega))
  have BD : Hid (Below w.heap.size w w4.drew) := Lib.hid B5.out.drew
  have RD : Hid (Box w4.drew w.heap.size #[.int .i64 0, .int .i64 0] 45) := Lib.hid (R5.out.drewN 1)
  have AD : Hid (Box w4.drew w2.heap.size #[.int .i64 s, .int .i64 a] 45) := Lib.hid (A5.out.drewN 1)
  have hwd : w4.drew.heap.size = w4.heap.size := rfl
  have HWD := Lib.hid hwd
  clear w4_G hRd w4_R hwd
  have hlow : w.heap.size < w4.heap.size := by omega
  rcases Bool.eq_false_or_eq_true (z == 0) with hz | hz
  · go_wp2_with fail
    go_region_with (go_at_call 50; refine (l11Copy_any x _ _ HOD.out.at_ HSM.out).mono ?_; rintro e w5 ⟨vb, usb, rfl, hO5, hb5⟩; obtain ⟨ba, bc, rfl⟩ := own_slice hO5.row.1; obtain ⟨Q_0, Q_1, Q_2, Q_3, Q_4⟩ := box2 (RD.out.below hb5 RD.out.lt); obtain ⟨P_0, P_1, P_2, P_3, P_4⟩ := box2 (AD.out.below hb5 AD.out.lt); have HX6 := Lib.hid (HOD.out.below hb5 (show w3.heap.size ≤ w4.heap.size from hs4)); have HO6 : Hid (OwnLs w5 w4.heap.size w5.heap.size 26 69 (.slice ba x.length bc) x usb) := Lib.hid hO5; have HB6 := Lib.hid (BD.out.trans (hb5.mono BD.out.size)); clear hb5 hO5)
    all_goals
      go_wp2_with fail
      apply bodyPost_ret
      · simp [results, Try.results26, go_sem, Q_0, Q_1, Q_2, Q_3]
        rfl
      · rfl
      · refine ⟨s, a, _, _, x, x, rfl, OwnLs.at_ (tL := 26) (tE := 69) (lo := w2.heap.size + 1) (hi := w3.heap.size) (us := usx) ?_, OwnLs.at_ (tL := 26) (tE := 69) (lo := w4.heap.size) (hi := w5.heap.size) (us := usb) ?_, ?_⟩
        · have h1 := HX6.out
          rw [World.size_alloc] at h1
          with_reducible (repeat (first | exact h1 | (refine OwnLs.low ?_ (by first | (simp; done) | (simp; omega)) _) | apply OwnLs.drewN))
        · have h1 := HO6.out
          with_reducible (repeat (first | exact h1 | (refine OwnLs.low ?_ (by first | (simp; done) | (simp; omega)) _) | apply OwnLs.drewN))
        · have hB := HB6.out
          exact (by with_reducible (repeat (first | (refine below_drewN ?_ _) | (refine Below.drew ?_) | (refine below_alloc ?_ (by first | omega | (simp; done) | (simp; omega)) _) | (refine Below.setCell ?_ (by first | omega | (simp; done) | (simp; omega)) _) | exact Below.refl _ _ | assumption | (refine below_call ?_ (by first | omega | (simp; done) | (simp; omega)) (by assumption)))))
  · go_wp2_with fail
    go_region_with (go_at_call 41; refine (drawDb B 421 _ HRD.out (by omega)).mono ?_; rintro e w5 ⟨vb, y, usb, rfl, hO5, _, _, _, hG5⟩; obtain ⟨ba, bc, rfl⟩ := own_slice hO5.row.1; obtain ⟨Q_0, Q_1, Q_2, Q_3, Q_4⟩ := box2 (RD.out.only hG5 (by omega)); obtain ⟨P_0, P_1, P_2, P_3, P_4⟩ := box2 (AD.out.only hG5 (by omega)); have HX6 := Lib.hid (HOD.out.only hG5 (by simp; omega)); have HO6 : Hid (OwnLs w5 w4.heap.size w5.heap.size 26 69 (.slice ba y.length bc) y usb) := Lib.hid hO5; have HB6 := Lib.hid (below_only BD.out (Nat.le_refl _) (by omega) hG5); clear hG5 hO5)
    all_goals
      go_wp2_with fail
      apply bodyPost_ret
      · simp [results, Try.results26, go_sem, Q_0, Q_1, Q_2, Q_3]
        rfl
      · rfl
      · refine ⟨s, a, _, _, x, y, rfl, OwnLs.at_ (tL := 26) (tE := 69) (lo := w2.heap.size + 1) (hi := w3.heap.size) (us := usx) ?_, OwnLs.at_ (tL := 26) (tE := 69) (lo := w4.heap.size) (hi := w5.heap.size) (us := usb) ?_, ?_⟩
        · have h1 := HX6.out
          rw [World.size_alloc] at h1
          with_reducible (repeat (first | exact h1 | (refine OwnLs.low ?_ (by first | (simp; done) | (simp; omega)) _) | apply OwnLs.drewN))
        · have h1 := HO6.out
          with_reducible (repeat (first | exact h1 | (refine OwnLs.low ?_ (by first | (simp; done) | (simp; omega)) _) | apply OwnLs.drewN))
        · have hB := HB6.out
          exact (by with_reducible (repeat (first | (refine below_drewN ?_ _) | (refine Below.drew ?_) | (refine below_alloc ?_ (by first | omega | (simp; done) | (simp; omega)) _) | (refine Below.setCell ?_ (by first | omega | (simp; done) | (simp; omega)) _) | exact Below.refl _ _ | assumption | (refine below_call ?_ (by first | omega | (simp; done) | (simp; omega)) (by assumption)))))
end Go.Proofs.Ytidcpdolcbbnjaa
