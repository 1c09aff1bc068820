/- AdjacencySync of the program and of the reference. -/
import Derived.Test.YtidcpdolcbbnjaaMiss2
import Derived.Test.YtidcpdolcbbnjaaAdj
namespace Go.Proofs.Ytidcpdolcbbnjaa
open Go.RowKit

def syncOf (s a : Int) (m o : List LsaD) : Int × Int :=
  if adjOk s a && dbOk m && dbOk o then (if s < 2 then (s, a) else if (missD m o).isEmpty && (missD o m).isEmpty then (3, a) else (2, a)) else (0, 0)
def SyncPost (w : World) (r : Int × Int) (e : Ending) (w' : World) : Prop := e = .returned (.agg #[.int .i64 r.1, .int .i64 r.2]) ∧ Below w.heap.size w w'
theorem sync_bad {s a : Int} {m o : List LsaD} (h : (adjOk s a && dbOk m && dbOk o) = false) : syncOf s a m o = (0, 0) := by unfold syncOf; rw [h]; rfl
theorem sync_low {s a : Int} {m o : List LsaD} (h : (adjOk s a && dbOk m && dbOk o) = true) (hs : s < 2) : syncOf s a m o = (s, a) := by unfold syncOf; rw [h]; simp [hs]
theorem sync_full {s a : Int} {m o : List LsaD} (h : (adjOk s a && dbOk m && dbOk o) = true) (hs : ¬ s < 2) (h1 : missD m o = []) (h2 : missD o m = []) : syncOf s a m o = (3, a) := by unfold syncOf; rw [h, h1, h2]; simp [hs]
theorem sync_two {s a : Int} {m o : List LsaD} (h : (adjOk s a && dbOk m && dbOk o) = true) (hs : ¬ s < 2) (h1 : missD m o ≠ [] ∨ missD o m ≠ []) : syncOf s a m o = (2, a) := by
  unfold syncOf; rw [h]
  have : ((missD m o).isEmpty && (missD o m).isEmpty) = false := by
    rcases h1 with h1 | h1
    · cases hm : missD m o with | nil => exact absurd hm h1 | cons x l => rfl
    · cases hm : missD o m with | nil => exact absurd hm h1 | cons x l => simp
  simp [hs, this]
theorem sMissD (db other : List LsaD) (v u : Value) (w : World) (hv : LsasAt w v db) (hu : LsasAt w u other) (h1 : dbOk db = true) (h2 : dbOk other = true) : Calls Try.prog 56 #[v, u] w (MadeInts w (missD db other)) := by
  rw [← missOf_ok h1 h2]
  exact sDbMissing db other v u w hv hu
theorem iMissD (db other : List LsaD) (v u : Value) (w : World) (hv : LsasAt w v db) (hu : LsasAt w u other) (h1 : dbOk db = true) (h2 : dbOk other = true) : Calls Try.prog 53 #[v, u] w (MadeInts w (missD db other)) :=
  missing_any db other v u w hv hu (dbOk_iff.1 h1).2 (by have := dbOk_len h1; omega) (by have := dbOk_len h2; omega)
set_option maxHeartbeats 1000000 in
theorem iSync (s a : Int) (mine other : List LsaD) (v u : Value) (w : World) (hm : LsasAt w v mine) (ho : LsasAt w u other) :
    Calls Try.prog 27 #[.agg #[.int .i64 s, .int .i64 a], v, u] w (SyncPost w (syncOf s a mine other)) := by
  have hB0 : Below w.heap.size w ((w.alloc (.cells #[.int .i64 s, .int .i64 a] 45)).alloc (.cells #[.int .i64 0, .int .i64 0] 45)) := (by with_reducible (repeat (first | (refine below_drewN ?_ _) | (refine Below.drew ?_) | (refine below_alloc ?_ (by first | omega | (simp; done) | (simp; omega)) _) | (refine Below.setCell ?_ (by first | omega | (simp; done) | (simp; omega)) _) | exact Below.refl _ _ | assumption | (refine below_call ?_ (by first | omega | (simp; done) | (simp; omega)) (by assumption)))))
  have hB1 := hB0.alloc (by simp; omega) (.cells #[.int .i64 s, .int .i64 a] 45)
  have HM := Lib.hid (hm.below hB1 (Nat.le_refl _)); have HO := Lib.hid (ho.below hB1 (Nat.le_refl _))
  have BW := Lib.hid hB1
  have HM0 := Lib.hid hm; have HO0 := Lib.hid ho
  obtain ⟨va, vn, vc, rfl⟩ := hm.form
  obtain ⟨ua, un, uc, rfl⟩ := ho.form
  clear hm ho hB0 hB1
  rcases Bool.eq_false_or_eq_true (adjOk s a) with h0 | h0
  rotate_left
  · have hr := sync_bad (s := s) (a := a) (m := mine) (o := other) (by rw [h0]; rfl)
    have HR := Lib.hid hr
    clear hr
    go_enter Try.func27, Try.ntmps27
    go_wp2_with (go_at_call 55; refine (iAdjValid _ _ _).mono ?_; rintro e w' ⟨rfl, rfl⟩)
    rw [HR.out]
    exact bodyPost_ret (v := .agg #[.int .i64 0, .int .i64 0]) (by simp [results, Try.results27, go_sem]) rfl ⟨rfl, (by with_reducible (repeat (first | (refine below_drewN ?_ _) | (refine Below.drew ?_) | (refine below_alloc ?_ (by first | omega | (simp; done) | (simp; omega)) _) | (refine Below.setCell ?_ (by first | omega | (simp; done) | (simp; omega)) _) | exact Below.refl _ _ | assumption | (refine below_call ?_ (by first | omega | (simp; done) | (simp; omega)) (by assumption)))))⟩
  obtain ⟨W1, hW1⟩ : ∃ W : World, W = (((w.alloc (.cells #[.int .i64 s, .int .i64 a] 45)).alloc (.cells #[.int .i64 0, .int .i64 0] 45)).alloc (.cells #[.int .i64 s, .int .i64 a] 45)) := ⟨_, rfl⟩
  have A := Lib.hid (((box_new w #[.int .i64 s, .int .i64 a] 45).alloc (.cells #[.int .i64 0, .int .i64 0] 45)).alloc (.cells #[.int .i64 s, .int .i64 a] 45))
  have R := Lib.hid ((box_at (w.alloc (.cells #[.int .i64 s, .int .i64 a] 45)) #[.int .i64 0, .int .i64 0] 45 (b := w.heap.size + 1) (by simp)).alloc (.cells #[.int .i64 s, .int .i64 a] 45))
  rw [← hW1] at HM HO BW A R
  have HW1 := Lib.hid hW1
  clear hW1
  have H0 := Lib.hid h0
  rcases Bool.eq_false_or_eq_true (dbOk mine) with h1 | h1
  rotate_left
  · have hr := sync_bad (s := s) (a := a) (m := mine) (o := other) (by rw [h1]; simp)
    have HR := Lib.hid hr; have H1 := Lib.hid h1
    clear hr h1
    go_enter Try.func27, Try.ntmps27
    go_wp2_with (go_at_call 55; refine (iAdjValid _ _ _).mono ?_; rintro e w' ⟨rfl, rfl⟩)
    rw [← HW1.out]
    refine (iDbValid mine _ _ HM.out).mono ?_
    rw [H1.out]
    rintro e w2 ⟨rfl, hb2⟩
    obtain ⟨A_0, A_1, A_2, A_3, A_4⟩ := box2 A.out
    obtain ⟨R_0, R_1, R_2, R_3, R_4⟩ := box2 R.out
    have kk := Lib.hid (below_call (B := W1.heap.size) (a := W1) (by with_reducible (repeat (first | (refine below_drewN ?_ _) | (refine Below.drew ?_) | (refine below_alloc ?_ (by first | omega | (simp; done) | (simp; omega)) _) | (refine Below.setCell ?_ (by first | omega | (simp; done) | (simp; omega)) _) | exact Below.refl _ _ | assumption | (refine below_call ?_ (by first | omega | (simp; done) | (simp; omega)) (by assumption))))) (Nat.le_refl _) hb2)
    replace BW := Lib.hid (BW.out.trans (kk.out.mono BW.out.size))
    replace A := Lib.hid (A.out.below kk.out A.out.lt)
    clear A_0 A_1 A_2 A_3 A_4
    obtain ⟨A_0, A_1, A_2, A_3, A_4⟩ := box2 A.out
    replace R := Lib.hid (R.out.below kk.out R.out.lt)
    clear R_0 R_1 R_2 R_3 R_4
    obtain ⟨R_0, R_1, R_2, R_3, R_4⟩ := box2 R.out
    clear hb2 kk
    go_wp2_with fail
    rw [HR.out]
    have hB := BW.out
    exact bodyPost_ret (v := .agg #[.int .i64 0, .int .i64 0]) (by simp [results, Try.results27, go_sem, *]) rfl ⟨rfl, (by with_reducible (repeat (first | (refine below_drewN ?_ _) | (refine Below.drew ?_) | (refine below_alloc ?_ (by first | omega | (simp; done) | (simp; omega)) _) | (refine Below.setCell ?_ (by first | omega | (simp; done) | (simp; omega)) _) | exact Below.refl _ _ | assumption | (refine below_call ?_ (by first | omega | (simp; done) | (simp; omega)) (by assumption)))))⟩
  have H1 := Lib.hid h1
  rcases Bool.eq_false_or_eq_true (dbOk other) with h2 | h2
  rotate_left
  · have hr := sync_bad (s := s) (a := a) (m := mine) (o := other) (by rw [h2]; simp)
    have HR := Lib.hid hr; have H2 := Lib.hid h2
    clear hr h1 h2
    go_enter Try.func27, Try.ntmps27
    go_wp2_with (go_at_call 55; refine (iAdjValid _ _ _).mono ?_; rintro e w' ⟨rfl, rfl⟩)
    rw [← HW1.out]
    refine (iDbValid mine _ _ HM.out).mono ?_
    rw [H1.out]
    rintro e w2 ⟨rfl, hb2⟩
    obtain ⟨A_0, A_1, A_2, A_3, A_4⟩ := box2 A.out
    obtain ⟨R_0, R_1, R_2, R_3, R_4⟩ := box2 R.out
    have kk := Lib.hid (below_call (B := W1.heap.size) (a := W1) (by with_reducible (repeat (first | (refine below_drewN ?_ _) | (refine Below.drew ?_) | (refine below_alloc ?_ (by first | omega | (simp; done) | (simp; omega)) _) | (refine Below.setCell ?_ (by first | omega | (simp; done) | (simp; omega)) _) | exact Below.refl _ _ | assumption | (refine below_call ?_ (by first | omega | (simp; done) | (simp; omega)) (by assumption))))) (Nat.le_refl _) hb2)
    replace BW := Lib.hid (BW.out.trans (kk.out.mono BW.out.size))
    replace A := Lib.hid (A.out.below kk.out A.out.lt)
    clear A_0 A_1 A_2 A_3 A_4
    obtain ⟨A_0, A_1, A_2, A_3, A_4⟩ := box2 A.out
    replace R := Lib.hid (R.out.below kk.out R.out.lt)
    clear R_0 R_1 R_2 R_3 R_4
    obtain ⟨R_0, R_1, R_2, R_3, R_4⟩ := box2 R.out
    replace HO := Lib.hid (HO.out.below kk.out (Nat.le_refl _))
    clear hb2 kk
    go_wp2_with fail
    refine (iDbValid other _ _ HO.out).mono ?_
    rw [H2.out]
    rintro e w3 ⟨rfl, hb3⟩
    have kk := Lib.hid (below_call (B := w2.heap.size) (a := w2) (by with_reducible (repeat (first | (refine below_drewN ?_ _) | (refine Below.drew ?_) | (refine below_alloc ?_ (by first | omega | (simp; done) | (simp; omega)) _) | (refine Below.setCell ?_ (by first | omega | (simp; done) | (simp; omega)) _) | exact Below.refl _ _ | assumption | (refine below_call ?_ (by first | omega | (simp; done) | (simp; omega)) (by assumption))))) (Nat.le_refl _) hb3)
    replace BW := Lib.hid (BW.out.trans (kk.out.mono BW.out.size))
    replace A := Lib.hid (A.out.below kk.out A.out.lt)
    clear A_0 A_1 A_2 A_3 A_4
    obtain ⟨A_0, A_1, A_2, A_3, A_4⟩ := box2 A.out
    replace R := Lib.hid (R.out.below kk.out R.out.lt)
    clear R_0 R_1 R_2 R_3 R_4
    obtain ⟨R_0, R_1, R_2, R_3, R_4⟩ := box2 R.out
    clear hb3 kk
    go_wp2_with fail
    rw [HR.out]
    have hB := BW.out
    exact bodyPost_ret (v := .agg #[.int .i64 0, .int .i64 0]) (by simp [results, Try.results27, go_sem, *]) rfl ⟨rfl, (by with_reducible (repeat (first | (refine below_drewN ?_ _) | (refine Below.drew ?_) | (refine below_alloc ?_ (by first | omega | (simp; done) | (simp; omega)) _) | (refine Below.setCell ?_ (by first | omega | (simp; done) | (simp; omega)) _) | exact Below.refl _ _ | assumption | (refine below_call ?_ (by first | omega | (simp; done) | (simp; omega)) (by assumption)))))⟩
  have H2 := Lib.hid h2
  have hall : (adjOk s a && dbOk mine && dbOk other) = true := by rw [h0, h1, h2]; rfl
  have hsr : 0 ≤ s ∧ s ≤ 3 := by simp [adjOk, inB] at h0; omega
  obtain ⟨hs0, hs3⟩ := hsr
  have HALL := Lib.hid hall
  clear hall h1 h2
  by_cases hs2 : s < 2
  · have hr := sync_low HALL.out hs2
    have HR := Lib.hid hr
    have q2 : (s != 2) = true := by simp; omega
    have q3 : (s != 3) = true := by simp; omega
    have q4 : decide (s < 2) = true := by simp; omega
    clear hr
    go_enter Try.func27, Try.ntmps27
    go_wp2_with (go_at_call 55; refine (iAdjValid _ _ _).mono ?_; rintro e w' ⟨rfl, rfl⟩)
    rw [← HW1.out]
    refine (iDbValid mine _ _ HM.out).mono ?_
    rw [H1.out]
    rintro e w2 ⟨rfl, hb2⟩
    obtain ⟨A_0, A_1, A_2, A_3, A_4⟩ := box2 A.out
    obtain ⟨R_0, R_1, R_2, R_3, R_4⟩ := box2 R.out
    have kk := Lib.hid (below_call (B := W1.heap.size) (a := W1) (by with_reducible (repeat (first | (refine below_drewN ?_ _) | (refine Below.drew ?_) | (refine below_alloc ?_ (by first | omega | (simp; done) | (simp; omega)) _) | (refine Below.setCell ?_ (by first | omega | (simp; done) | (simp; omega)) _) | exact Below.refl _ _ | assumption | (refine below_call ?_ (by first | omega | (simp; done) | (simp; omega)) (by assumption))))) (Nat.le_refl _) hb2)
    replace BW := Lib.hid (BW.out.trans (kk.out.mono BW.out.size))
    replace A := Lib.hid (A.out.below kk.out A.out.lt)
    clear A_0 A_1 A_2 A_3 A_4
    obtain ⟨A_0, A_1, A_2, A_3, A_4⟩ := box2 A.out
    replace R := Lib.hid (R.out.below kk.out R.out.lt)
    clear R_0 R_1 R_2 R_3 R_4
    obtain ⟨R_0, R_1, R_2, R_3, R_4⟩ := box2 R.out
    replace HO := Lib.hid (HO.out.below kk.out (Nat.le_refl _))
    clear hb2 kk
    go_wp2_with fail
    refine (iDbValid other _ _ HO.out).mono ?_
    rw [H2.out]
    rintro e w3 ⟨rfl, hb3⟩
    have kk := Lib.hid (below_call (B := w2.heap.size) (a := w2) (by with_reducible (repeat (first | (refine below_drewN ?_ _) | (refine Below.drew ?_) | (refine below_alloc ?_ (by first | omega | (simp; done) | (simp; omega)) _) | (refine Below.setCell ?_ (by first | omega | (simp; done) | (simp; omega)) _) | exact Below.refl _ _ | assumption | (refine below_call ?_ (by first | omega | (simp; done) | (simp; omega)) (by assumption))))) (Nat.le_refl _) hb3)
    replace BW := Lib.hid (BW.out.trans (kk.out.mono BW.out.size))
    replace A := Lib.hid (A.out.below kk.out A.out.lt)
    clear A_0 A_1 A_2 A_3 A_4
    obtain ⟨A_0, A_1, A_2, A_3, A_4⟩ := box2 A.out
    replace R := Lib.hid (R.out.below kk.out R.out.lt)
    clear R_0 R_1 R_2 R_3 R_4
    obtain ⟨R_0, R_1, R_2, R_3, R_4⟩ := box2 R.out
    clear hb3 kk
    go_wp2_with fail
    rw [HR.out]
    have hB := BW.out
    exact bodyPost_ret (v := .agg #[.int .i64 s, .int .i64 a]) (by simp [results, Try.results27, go_sem, *]) rfl ⟨rfl, (by with_reducible (repeat (first | (refine below_drewN ?_ _) | (refine Below.drew ?_) | (refine below_alloc ?_ (by first | omega | (simp; done) | (simp; omega)) _) | (refine Below.setCell ?_ (by first | omega | (simp; done) | (simp; omega)) _) | exact Below.refl _ _ | assumption | (refine below_call ?_ (by first | omega | (simp; done) | (simp; omega)) (by assumption)))))⟩
  have HS2 := Lib.hid hs2
  have q4 : decide (s < 2) = false := by simp; omega
  have q2 : s = 2 ∨ s = 3 := by omega
  obtain ⟨p, hp⟩ : ∃ p, missD mine other = p := ⟨_, rfl⟩
  obtain ⟨q, hq⟩ : ∃ q, missD other mine = q := ⟨_, rfl⟩
  obtain ⟨pn, hpn⟩ : ∃ n, p.length = n := ⟨_, rfl⟩
  obtain ⟨qn, hqn⟩ : ∃ n, q.length = n := ⟨_, rfl⟩
  have HP := Lib.hid hp; have HQ := Lib.hid hq; have HPN := Lib.hid hpn; have HQN := Lib.hid hqn
  clear hp hq hs2 hpn hqn
  have q2' : (s != 2 && s != 3) = false := by rcases q2 with rfl | rfl <;> rfl
  have hs2n : ¬ s < 2 := by omega
  by_cases hz1 : pn = 0
  · by_cases hz2 : qn = 0
    · have hr := sync_full HALL.out hs2n (by rw [HP.out]; exact List.eq_nil_of_length_eq_zero (by rw [HPN.out, hz1])) (by rw [HQ.out]; exact List.eq_nil_of_length_eq_zero (by rw [HQN.out, hz2]))
      have HR := Lib.hid hr
      clear hr hs2n
      subst hz1 hz2
      have y1 : (((0:Nat):Int) == 0) = true := rfl
      rcases q2 with rfl | rfl
      all_goals
        go_enter Try.func27, Try.ntmps27
        go_wp2_with (go_at_call 55; refine (iAdjValid _ _ _).mono ?_; rintro e w' ⟨rfl, rfl⟩)
        rw [← HW1.out]
        refine (iDbValid mine _ _ HM.out).mono ?_
        rw [H1.out]
        rintro e w2 ⟨rfl, hb2⟩
        obtain ⟨A_0, A_1, A_2, A_3, A_4⟩ := box2 A.out
        obtain ⟨R_0, R_1, R_2, R_3, R_4⟩ := box2 R.out
        have kk := Lib.hid (below_call (B := W1.heap.size) (a := W1) (by with_reducible (repeat (first | (refine below_drewN ?_ _) | (refine Below.drew ?_) | (refine below_alloc ?_ (by first | omega | (simp; done) | (simp; omega)) _) | (refine Below.setCell ?_ (by first | omega | (simp; done) | (simp; omega)) _) | exact Below.refl _ _ | assumption | (refine below_call ?_ (by first | omega | (simp; done) | (simp; omega)) (by assumption))))) (Nat.le_refl _) hb2)
        replace BW := Lib.hid (BW.out.trans (kk.out.mono BW.out.size))
        replace A := Lib.hid (A.out.below kk.out A.out.lt)
        clear A_0 A_1 A_2 A_3 A_4
        obtain ⟨A_0, A_1, A_2, A_3, A_4⟩ := box2 A.out
        replace R := Lib.hid (R.out.below kk.out R.out.lt)
        clear R_0 R_1 R_2 R_3 R_4
        obtain ⟨R_0, R_1, R_2, R_3, R_4⟩ := box2 R.out
        replace HO := Lib.hid (HO.out.below kk.out (Nat.le_refl _))
        clear hb2 kk
        go_wp2_with fail
        refine (iDbValid other _ _ HO.out).mono ?_
        rw [H2.out]
        rintro e w3 ⟨rfl, hb3⟩
        have kk := Lib.hid (below_call (B := w2.heap.size) (a := w2) (by with_reducible (repeat (first | (refine below_drewN ?_ _) | (refine Below.drew ?_) | (refine below_alloc ?_ (by first | omega | (simp; done) | (simp; omega)) _) | (refine Below.setCell ?_ (by first | omega | (simp; done) | (simp; omega)) _) | exact Below.refl _ _ | assumption | (refine below_call ?_ (by first | omega | (simp; done) | (simp; omega)) (by assumption))))) (Nat.le_refl _) hb3)
        replace BW := Lib.hid (BW.out.trans (kk.out.mono BW.out.size))
        replace A := Lib.hid (A.out.below kk.out A.out.lt)
        clear A_0 A_1 A_2 A_3 A_4
        obtain ⟨A_0, A_1, A_2, A_3, A_4⟩ := box2 A.out
        replace R := Lib.hid (R.out.below kk.out R.out.lt)
        clear R_0 R_1 R_2 R_3 R_4
        obtain ⟨R_0, R_1, R_2, R_3, R_4⟩ := box2 R.out
        clear hb3 kk
        go_wp2_with fail
        refine (iMissD mine other _ _ _ (HM0.out.below (by have hB := BW.out; exact (by with_reducible (repeat (first | (refine below_drewN ?_ _) | (refine Below.drew ?_) | (refine below_alloc ?_ (by first | omega | (simp; done) | (simp; omega)) _) | (refine Below.setCell ?_ (by first | omega | (simp; done) | (simp; omega)) _) | exact Below.refl _ _ | assumption | (refine below_call ?_ (by first | omega | (simp; done) | (simp; omega)) (by assumption)))))) (Nat.le_refl _)) (HO0.out.below (by have hB := BW.out; exact (by with_reducible (repeat (first | (refine below_drewN ?_ _) | (refine Below.drew ?_) | (refine below_alloc ?_ (by first | omega | (simp; done) | (simp; omega)) _) | (refine Below.setCell ?_ (by first | omega | (simp; done) | (simp; omega)) _) | exact Below.refl _ _ | assumption | (refine below_call ?_ (by first | omega | (simp; done) | (simp; omega)) (by assumption)))))) (Nat.le_refl _)) H1.out H2.out).mono ?_
        rw [HP.out]
        rintro e w4 ⟨r4, rfl, hO4, hb4⟩
        obtain ⟨ra, rc, rfl⟩ := own_slice hO4.1
        rw [HPN.out]
        have hB := BW.out
        have BW4 := Lib.hid (below_call (B := w.heap.size) (a := w) (by with_reducible (repeat (first | (refine below_drewN ?_ _) | (refine Below.drew ?_) | (refine below_alloc ?_ (by first | omega | (simp; done) | (simp; omega)) _) | (refine Below.setCell ?_ (by first | omega | (simp; done) | (simp; omega)) _) | exact Below.refl _ _ | assumption | (refine below_call ?_ (by first | omega | (simp; done) | (simp; omega)) (by assumption))))) (Nat.le_refl _) hb4)
        have A4 := Lib.hid (Box.call hb4 (box2_set0 A.out (.int .i64 2)))
        have R4 := Lib.hid (Box.call hb4 (R.out.setOther (by simp) _))
        clear hB hO4 hb4 A_0 A_1 A_2 A_3 A_4 R_0 R_1 R_2 R_3 R_4
        obtain ⟨A_0, A_1, A_2, A_3, A_4⟩ := box2 A4.out
        obtain ⟨R_0, R_1, R_2, R_3, R_4⟩ := box2 R4.out
        go_wp2_with fail
        refine (iMissD other mine _ _ _ (HO0.out.below BW4.out (Nat.le_refl _)) (HM0.out.below BW4.out (Nat.le_refl _)) H2.out H1.out).mono ?_
        rw [HQ.out]
        rintro e w5 ⟨r5, rfl, hO5, hb5⟩
        obtain ⟨sa, sc, rfl⟩ := own_slice hO5.1
        rw [HQN.out]
        have kk := Lib.hid (below_call (B := w4.heap.size) (a := w4) (by with_reducible (repeat (first | (refine below_drewN ?_ _) | (refine Below.drew ?_) | (refine below_alloc ?_ (by first | omega | (simp; done) | (simp; omega)) _) | (refine Below.setCell ?_ (by first | omega | (simp; done) | (simp; omega)) _) | exact Below.refl _ _ | assumption | (refine below_call ?_ (by first | omega | (simp; done) | (simp; omega)) (by assumption))))) (Nat.le_refl _) hb5)
        replace BW4 := Lib.hid (BW4.out.trans (kk.out.mono BW4.out.size))
        replace A4 := Lib.hid (A4.out.below kk.out A4.out.lt)
        replace R4 := Lib.hid (R4.out.below kk.out R4.out.lt)
        clear hb5 kk hO5 A_0 A_1 A_2 A_3 A_4 R_0 R_1 R_2 R_3 R_4
        obtain ⟨A_0, A_1, A_2, A_3, A_4⟩ := box2 A4.out
        obtain ⟨R_0, R_1, R_2, R_3, R_4⟩ := box2 R4.out
        go_wp2_with fail
        rw [HR.out]
        have hB := BW4.out
        exact bodyPost_ret (v := .agg #[.int .i64 3, .int .i64 a]) (by simp [results, Try.results27, go_sem, *]) rfl ⟨rfl, (by with_reducible (repeat (first | (refine below_drewN ?_ _) | (refine Below.drew ?_) | (refine below_alloc ?_ (by first | omega | (simp; done) | (simp; omega)) _) | (refine Below.setCell ?_ (by first | omega | (simp; done) | (simp; omega)) _) | exact Below.refl _ _ | assumption | (refine below_call ?_ (by first | omega | (simp; done) | (simp; omega)) (by assumption)))))⟩
    · have hr := sync_two HALL.out hs2n (.inr (by rw [HQ.out]; intro h; apply hz2; rw [← HQN.out, h]; rfl))
      have HR := Lib.hid hr
      clear hr hs2n
      subst hz1
      have y1 : (((0:Nat):Int) == 0) = true := rfl
      have y2 : ((qn:Int) == 0) = false := by simp; omega
      rcases q2 with rfl | rfl
      all_goals
        go_enter Try.func27, Try.ntmps27
        go_wp2_with (go_at_call 55; refine (iAdjValid _ _ _).mono ?_; rintro e w' ⟨rfl, rfl⟩)
        rw [← HW1.out]
        refine (iDbValid mine _ _ HM.out).mono ?_
        rw [H1.out]
        rintro e w2 ⟨rfl, hb2⟩
        obtain ⟨A_0, A_1, A_2, A_3, A_4⟩ := box2 A.out
        obtain ⟨R_0, R_1, R_2, R_3, R_4⟩ := box2 R.out
        have kk := Lib.hid (below_call (B := W1.heap.size) (a := W1) (by with_reducible (repeat (first | (refine below_drewN ?_ _) | (refine Below.drew ?_) | (refine below_alloc ?_ (by first | omega | (simp; done) | (simp; omega)) _) | (refine Below.setCell ?_ (by first | omega | (simp; done) | (simp; omega)) _) | exact Below.refl _ _ | assumption | (refine below_call ?_ (by first | omega | (simp; done) | (simp; omega)) (by assumption))))) (Nat.le_refl _) hb2)
        replace BW := Lib.hid (BW.out.trans (kk.out.mono BW.out.size))
        replace A := Lib.hid (A.out.below kk.out A.out.lt)
        clear A_0 A_1 A_2 A_3 A_4
        obtain ⟨A_0, A_1, A_2, A_3, A_4⟩ := box2 A.out
        replace R := Lib.hid (R.out.below kk.out R.out.lt)
        clear R_0 R_1 R_2 R_3 R_4
        obtain ⟨R_0, R_1, R_2, R_3, R_4⟩ := box2 R.out
        replace HO := Lib.hid (HO.out.below kk.out (Nat.le_refl _))
        clear hb2 kk
        go_wp2_with fail
        refine (iDbValid other _ _ HO.out).mono ?_
        rw [H2.out]
        rintro e w3 ⟨rfl, hb3⟩
        have kk := Lib.hid (below_call (B := w2.heap.size) (a := w2) (by with_reducible (repeat (first | (refine below_drewN ?_ _) | (refine Below.drew ?_) | (refine below_alloc ?_ (by first | omega | (simp; done) | (simp; omega)) _) | (refine Below.setCell ?_ (by first | omega | (simp; done) | (simp; omega)) _) | exact Below.refl _ _ | assumption | (refine below_call ?_ (by first | omega | (simp; done) | (simp; omega)) (by assumption))))) (Nat.le_refl _) hb3)
        replace BW := Lib.hid (BW.out.trans (kk.out.mono BW.out.size))
        replace A := Lib.hid (A.out.below kk.out A.out.lt)
        clear A_0 A_1 A_2 A_3 A_4
        obtain ⟨A_0, A_1, A_2, A_3, A_4⟩ := box2 A.out
        replace R := Lib.hid (R.out.below kk.out R.out.lt)
        clear R_0 R_1 R_2 R_3 R_4
        obtain ⟨R_0, R_1, R_2, R_3, R_4⟩ := box2 R.out
        clear hb3 kk
        go_wp2_with fail
        refine (iMissD mine other _ _ _ (HM0.out.below (by have hB := BW.out; exact (by with_reducible (repeat (first | (refine below_drewN ?_ _) | (refine Below.drew ?_) | (refine below_alloc ?_ (by first | omega | (simp; done) | (simp; omega)) _) | (refine Below.setCell ?_ (by first | omega | (simp; done) | (simp; omega)) _) | exact Below.refl _ _ | assumption | (refine below_call ?_ (by first | omega | (simp; done) | (simp; omega)) (by assumption)))))) (Nat.le_refl _)) (HO0.out.below (by have hB := BW.out; exact (by with_reducible (repeat (first | (refine below_drewN ?_ _) | (refine Below.drew ?_) | (refine below_alloc ?_ (by first | omega | (simp; done) | (simp; omega)) _) | (refine Below.setCell ?_ (by first | omega | (simp; done) | (simp; omega)) _) | exact Below.refl _ _ | assumption | (refine below_call ?_ (by first | omega | (simp; done) | (simp; omega)) (by assumption)))))) (Nat.le_refl _)) H1.out H2.out).mono ?_
        rw [HP.out]
        rintro e w4 ⟨r4, rfl, hO4, hb4⟩
        obtain ⟨ra, rc, rfl⟩ := own_slice hO4.1
        rw [HPN.out]
        have hB := BW.out
        have BW4 := Lib.hid (below_call (B := w.heap.size) (a := w) (by with_reducible (repeat (first | (refine below_drewN ?_ _) | (refine Below.drew ?_) | (refine below_alloc ?_ (by first | omega | (simp; done) | (simp; omega)) _) | (refine Below.setCell ?_ (by first | omega | (simp; done) | (simp; omega)) _) | exact Below.refl _ _ | assumption | (refine below_call ?_ (by first | omega | (simp; done) | (simp; omega)) (by assumption))))) (Nat.le_refl _) hb4)
        have A4 := Lib.hid (Box.call hb4 (box2_set0 A.out (.int .i64 2)))
        have R4 := Lib.hid (Box.call hb4 (R.out.setOther (by simp) _))
        clear hB hO4 hb4 A_0 A_1 A_2 A_3 A_4 R_0 R_1 R_2 R_3 R_4
        obtain ⟨A_0, A_1, A_2, A_3, A_4⟩ := box2 A4.out
        obtain ⟨R_0, R_1, R_2, R_3, R_4⟩ := box2 R4.out
        go_wp2_with fail
        refine (iMissD other mine _ _ _ (HO0.out.below BW4.out (Nat.le_refl _)) (HM0.out.below BW4.out (Nat.le_refl _)) H2.out H1.out).mono ?_
        rw [HQ.out]
        rintro e w5 ⟨r5, rfl, hO5, hb5⟩
        obtain ⟨sa, sc, rfl⟩ := own_slice hO5.1
        rw [HQN.out]
        have kk := Lib.hid (below_call (B := w4.heap.size) (a := w4) (by with_reducible (repeat (first | (refine below_drewN ?_ _) | (refine Below.drew ?_) | (refine below_alloc ?_ (by first | omega | (simp; done) | (simp; omega)) _) | (refine Below.setCell ?_ (by first | omega | (simp; done) | (simp; omega)) _) | exact Below.refl _ _ | assumption | (refine below_call ?_ (by first | omega | (simp; done) | (simp; omega)) (by assumption))))) (Nat.le_refl _) hb5)
        replace BW4 := Lib.hid (BW4.out.trans (kk.out.mono BW4.out.size))
        replace A4 := Lib.hid (A4.out.below kk.out A4.out.lt)
        replace R4 := Lib.hid (R4.out.below kk.out R4.out.lt)
        clear hb5 kk hO5 A_0 A_1 A_2 A_3 A_4 R_0 R_1 R_2 R_3 R_4
        obtain ⟨A_0, A_1, A_2, A_3, A_4⟩ := box2 A4.out
        obtain ⟨R_0, R_1, R_2, R_3, R_4⟩ := box2 R4.out
        go_wp2_with fail
        rw [HR.out]
        have hB := BW4.out
        exact bodyPost_ret (v := .agg #[.int .i64 2, .int .i64 a]) (by simp [results, Try.results27, go_sem, *]) rfl ⟨rfl, (by with_reducible (repeat (first | (refine below_drewN ?_ _) | (refine Below.drew ?_) | (refine below_alloc ?_ (by first | omega | (simp; done) | (simp; omega)) _) | (refine Below.setCell ?_ (by first | omega | (simp; done) | (simp; omega)) _) | exact Below.refl _ _ | assumption | (refine below_call ?_ (by first | omega | (simp; done) | (simp; omega)) (by assumption)))))⟩
  · have hr := sync_two HALL.out hs2n (.inl (by rw [HP.out]; intro h; apply hz1; rw [← HPN.out, h]; rfl))
    have HR := Lib.hid hr
    clear hr hs2n
    have y1 : ((pn:Int) == 0) = false := by simp; omega
    rcases q2 with rfl | rfl
    all_goals
      go_enter Try.func27, Try.ntmps27
      go_wp2_with (go_at_call 55; refine (iAdjValid _ _ _).mono ?_; rintro e w' ⟨rfl, rfl⟩)
      rw [← HW1.out]
      refine (iDbValid mine _ _ HM.out).mono ?_
      rw [H1.out]
      rintro e w2 ⟨rfl, hb2⟩
      obtain ⟨A_0, A_1, A_2, A_3, A_4⟩ := box2 A.out
      obtain ⟨R_0, R_1, R_2, R_3, R_4⟩ := box2 R.out
      have kk := Lib.hid (below_call (B := W1.heap.size) (a := W1) (by with_reducible (repeat (first | (refine below_drewN ?_ _) | (refine Below.drew ?_) | (refine below_alloc ?_ (by first | omega | (simp; done) | (simp; omega)) _) | (refine Below.setCell ?_ (by first | omega | (simp; done) | (simp; omega)) _) | exact Below.refl _ _ | assumption | (refine below_call ?_ (by first | omega | (simp; done) | (simp; omega)) (by assumption))))) (Nat.le_refl _) hb2)
      replace BW := Lib.hid (BW.out.trans (kk.out.mono BW.out.size))
      replace A := Lib.hid (A.out.below kk.out A.out.lt)
      clear A_0 A_1 A_2 A_3 A_4
      obtain ⟨A_0, A_1, A_2, A_3, A_4⟩ := box2 A.out
      replace R := Lib.hid (R.out.below kk.out R.out.lt)
      clear R_0 R_1 R_2 R_3 R_4
      obtain ⟨R_0, R_1, R_2, R_3, R_4⟩ := box2 R.out
      replace HO := Lib.hid (HO.out.below kk.out (Nat.le_refl _))
      clear hb2 kk
      go_wp2_with fail
      refine (iDbValid other _ _ HO.out).mono ?_
      rw [H2.out]
      rintro e w3 ⟨rfl, hb3⟩
      have kk := Lib.hid (below_call (B := w2.heap.size) (a := w2) (by with_reducible (repeat (first | (refine below_drewN ?_ _) | (refine Below.drew ?_) | (refine below_alloc ?_ (by first | omega | (simp; done) | (simp; omega)) _) | (refine Below.setCell ?_ (by first | omega | (simp; done) | (simp; omega)) _) | exact Below.refl _ _ | assumption | (refine below_call ?_ (by first | omega | (simp; done) | (simp; omega)) (by assumption))))) (Nat.le_refl _) hb3)
      replace BW := Lib.hid (BW.out.trans (kk.out.mono BW.out.size))
      replace A := Lib.hid (A.out.below kk.out A.out.lt)
      clear A_0 A_1 A_2 A_3 A_4
      obtain ⟨A_0, A_1, A_2, A_3, A_4⟩ := box2 A.out
      replace R := Lib.hid (R.out.below kk.out R.out.lt)
      clear R_0 R_1 R_2 R_3 R_4
      obtain ⟨R_0, R_1, R_2, R_3, R_4⟩ := box2 R.out
      clear hb3 kk
      go_wp2_with fail
      refine (iMissD mine other _ _ _ (HM0.out.below (by have hB := BW.out; exact (by with_reducible (repeat (first | (refine below_drewN ?_ _) | (refine Below.drew ?_) | (refine below_alloc ?_ (by first | omega | (simp; done) | (simp; omega)) _) | (refine Below.setCell ?_ (by first | omega | (simp; done) | (simp; omega)) _) | exact Below.refl _ _ | assumption | (refine below_call ?_ (by first | omega | (simp; done) | (simp; omega)) (by assumption)))))) (Nat.le_refl _)) (HO0.out.below (by have hB := BW.out; exact (by with_reducible (repeat (first | (refine below_drewN ?_ _) | (refine Below.drew ?_) | (refine below_alloc ?_ (by first | omega | (simp; done) | (simp; omega)) _) | (refine Below.setCell ?_ (by first | omega | (simp; done) | (simp; omega)) _) | exact Below.refl _ _ | assumption | (refine below_call ?_ (by first | omega | (simp; done) | (simp; omega)) (by assumption)))))) (Nat.le_refl _)) H1.out H2.out).mono ?_
      rw [HP.out]
      rintro e w4 ⟨r4, rfl, hO4, hb4⟩
      obtain ⟨ra, rc, rfl⟩ := own_slice hO4.1
      rw [HPN.out]
      have hB := BW.out
      have BW4 := Lib.hid (below_call (B := w.heap.size) (a := w) (by with_reducible (repeat (first | (refine below_drewN ?_ _) | (refine Below.drew ?_) | (refine below_alloc ?_ (by first | omega | (simp; done) | (simp; omega)) _) | (refine Below.setCell ?_ (by first | omega | (simp; done) | (simp; omega)) _) | exact Below.refl _ _ | assumption | (refine below_call ?_ (by first | omega | (simp; done) | (simp; omega)) (by assumption))))) (Nat.le_refl _) hb4)
      have A4 := Lib.hid (Box.call hb4 (box2_set0 A.out (.int .i64 2)))
      have R4 := Lib.hid (Box.call hb4 (R.out.setOther (by simp) _))
      clear hB hO4 hb4 A_0 A_1 A_2 A_3 A_4 R_0 R_1 R_2 R_3 R_4
      obtain ⟨A_0, A_1, A_2, A_3, A_4⟩ := box2 A4.out
      obtain ⟨R_0, R_1, R_2, R_3, R_4⟩ := box2 R4.out
      go_wp2_with fail
      rw [HR.out]
      have hB := BW4.out
      exact bodyPost_ret (v := .agg #[.int .i64 2, .int .i64 a]) (by simp [results, Try.results27, go_sem, *]) rfl ⟨rfl, (by with_reducible (repeat (first | (refine below_drewN ?_ _) | (refine Below.drew ?_) | (refine below_alloc ?_ (by first | omega | (simp; done) | (simp; omega)) _) | (refine Below.setCell ?_ (by first | omega | (simp; done) | (simp; omega)) _) | exact Below.refl _ _ | assumption | (refine below_call ?_ (by first | omega | (simp; done) | (simp; omega)) (by assumption)))))⟩
set_option maxHeartbeats 1000000 in
theorem sSync (s a : Int) (mine other : List LsaD) (v u : Value) (w : World) (hm : LsasAt w v mine) (ho : LsasAt w u other) :
    Calls Try.prog 28 #[.agg #[.int .i64 s, .int .i64 a], v, u] w (SyncPost w (syncOf s a mine other)) := by
  have hB0 : Below w.heap.size w ((w.alloc (.cells #[.int .i64 s, .int .i64 a] 45)).alloc (.cells #[.int .i64 0, .int .i64 0] 45)) := (by with_reducible (repeat (first | (refine below_drewN ?_ _) | (refine Below.drew ?_) | (refine below_alloc ?_ (by first | omega | (simp; done) | (simp; omega)) _) | (refine Below.setCell ?_ (by first | omega | (simp; done) | (simp; omega)) _) | exact Below.refl _ _ | assumption | (refine below_call ?_ (by first | omega | (simp; done) | (simp; omega)) (by assumption)))))
  have hB1 := hB0.alloc (by simp; omega) (.cells #[.int .i64 s, .int .i64 a] 45)
  have HM := Lib.hid (hm.below hB1 (Nat.le_refl _)); have HO := Lib.hid (ho.below hB1 (Nat.le_refl _))
  have BW := Lib.hid hB1
  have HM0 := Lib.hid hm; have HO0 := Lib.hid ho
  obtain ⟨va, vn, vc, rfl⟩ := hm.form
  obtain ⟨ua, un, uc, rfl⟩ := ho.form
  clear hm ho hB0 hB1
  rcases Bool.eq_false_or_eq_true (adjOk s a) with h0 | h0
  rotate_left
  · have hr := sync_bad (s := s) (a := a) (m := mine) (o := other) (by rw [h0]; rfl)
    have HR := Lib.hid hr
    clear hr
    go_enter Try.func28, Try.ntmps28
    go_wp2_with (go_at_call 29; refine (sAdjValid _ _ _).mono ?_; rintro e w' ⟨rfl, rfl⟩)
    rw [HR.out]
    exact bodyPost_ret (v := .agg #[.int .i64 0, .int .i64 0]) (by simp [results, Try.results28, go_sem]) rfl ⟨rfl, (by with_reducible (repeat (first | (refine below_drewN ?_ _) | (refine Below.drew ?_) | (refine below_alloc ?_ (by first | omega | (simp; done) | (simp; omega)) _) | (refine Below.setCell ?_ (by first | omega | (simp; done) | (simp; omega)) _) | exact Below.refl _ _ | assumption | (refine below_call ?_ (by first | omega | (simp; done) | (simp; omega)) (by assumption)))))⟩
  obtain ⟨W1, hW1⟩ : ∃ W : World, W = (((w.alloc (.cells #[.int .i64 s, .int .i64 a] 45)).alloc (.cells #[.int .i64 0, .int .i64 0] 45)).alloc (.cells #[.int .i64 s, .int .i64 a] 45)) := ⟨_, rfl⟩
  have A := Lib.hid (((box_new w #[.int .i64 s, .int .i64 a] 45).alloc (.cells #[.int .i64 0, .int .i64 0] 45)).alloc (.cells #[.int .i64 s, .int .i64 a] 45))
  have R := Lib.hid ((box_at (w.alloc (.cells #[.int .i64 s, .int .i64 a] 45)) #[.int .i64 0, .int .i64 0] 45 (b := w.heap.size + 1) (by simp)).alloc (.cells #[.int .i64 s, .int .i64 a] 45))
  rw [← hW1] at HM HO BW A R
  have HW1 := Lib.hid hW1
  clear hW1
  have H0 := Lib.hid h0
  rcases Bool.eq_false_or_eq_true (dbOk mine) with h1 | h1
  rotate_left
  · have hr := sync_bad (s := s) (a := a) (m := mine) (o := other) (by rw [h1]; simp)
    have HR := Lib.hid hr; have H1 := Lib.hid h1
    clear hr h1
    go_enter Try.func28, Try.ntmps28
    go_wp2_with (go_at_call 29; refine (sAdjValid _ _ _).mono ?_; rintro e w' ⟨rfl, rfl⟩)
    rw [← HW1.out]
    refine (sDbValid mine _ _ HM.out).mono ?_
    rw [H1.out]
    rintro e w2 ⟨rfl, hb2⟩
    obtain ⟨A_0, A_1, A_2, A_3, A_4⟩ := box2 A.out
    obtain ⟨R_0, R_1, R_2, R_3, R_4⟩ := box2 R.out
    have kk := Lib.hid (below_call (B := W1.heap.size) (a := W1) (by with_reducible (repeat (first | (refine below_drewN ?_ _) | (refine Below.drew ?_) | (refine below_alloc ?_ (by first | omega | (simp; done) | (simp; omega)) _) | (refine Below.setCell ?_ (by first | omega | (simp; done) | (simp; omega)) _) | exact Below.refl _ _ | assumption | (refine below_call ?_ (by first | omega | (simp; done) | (simp; omega)) (by assumption))))) (Nat.le_refl _) hb2)
    replace BW := Lib.hid (BW.out.trans (kk.out.mono BW.out.size))
    replace A := Lib.hid (A.out.below kk.out A.out.lt)
    clear A_0 A_1 A_2 A_3 A_4
    obtain ⟨A_0, A_1, A_2, A_3, A_4⟩ := box2 A.out
    replace R := Lib.hid (R.out.below kk.out R.out.lt)
    clear R_0 R_1 R_2 R_3 R_4
    obtain ⟨R_0, R_1, R_2, R_3, R_4⟩ := box2 R.out
    clear hb2 kk
    go_wp2_with fail
    rw [HR.out]
    have hB := BW.out
    exact bodyPost_ret (v := .agg #[.int .i64 0, .int .i64 0]) (by simp [results, Try.results28, go_sem, *]) rfl ⟨rfl, (by with_reducible (repeat (first | (refine below_drewN ?_ _) | (refine Below.drew ?_) | (refine below_alloc ?_ (by first | omega | (simp; done) | (simp; omega)) _) | (refine Below.setCell ?_ (by first | omega | (simp; done) | (simp; omega)) _) | exact Below.refl _ _ | assumption | (refine below_call ?_ (by first | omega | (simp; done) | (simp; omega)) (by assumption)))))⟩
  have H1 := Lib.hid h1
  rcases Bool.eq_false_or_eq_true (dbOk other) with h2 | h2
  rotate_left
  · have hr := sync_bad (s := s) (a := a) (m := mine) (o := other) (by rw [h2]; simp)
    have HR := Lib.hid hr; have H2 := Lib.hid h2
    clear hr h1 h2
    go_enter Try.func28, Try.ntmps28
    go_wp2_with (go_at_call 29; refine (sAdjValid _ _ _).mono ?_; rintro e w' ⟨rfl, rfl⟩)
    rw [← HW1.out]
    refine (sDbValid mine _ _ HM.out).mono ?_
    rw [H1.out]
    rintro e w2 ⟨rfl, hb2⟩
    obtain ⟨A_0, A_1, A_2, A_3, A_4⟩ := box2 A.out
    obtain ⟨R_0, R_1, R_2, R_3, R_4⟩ := box2 R.out
    have kk := Lib.hid (below_call (B := W1.heap.size) (a := W1) (by with_reducible (repeat (first | (refine below_drewN ?_ _) | (refine Below.drew ?_) | (refine below_alloc ?_ (by first | omega | (simp; done) | (simp; omega)) _) | (refine Below.setCell ?_ (by first | omega | (simp; done) | (simp; omega)) _) | exact Below.refl _ _ | assumption | (refine below_call ?_ (by first | omega | (simp; done) | (simp; omega)) (by assumption))))) (Nat.le_refl _) hb2)
    replace BW := Lib.hid (BW.out.trans (kk.out.mono BW.out.size))
    replace A := Lib.hid (A.out.below kk.out A.out.lt)
    clear A_0 A_1 A_2 A_3 A_4
    obtain ⟨A_0, A_1, A_2, A_3, A_4⟩ := box2 A.out
    replace R := Lib.hid (R.out.below kk.out R.out.lt)
    clear R_0 R_1 R_2 R_3 R_4
    obtain ⟨R_0, R_1, R_2, R_3, R_4⟩ := box2 R.out
    replace HO := Lib.hid (HO.out.below kk.out (Nat.le_refl _))
    clear hb2 kk
    go_wp2_with fail
    refine (sDbValid other _ _ HO.out).mono ?_
    rw [H2.out]
    rintro e w3 ⟨rfl, hb3⟩
    have kk := Lib.hid (below_call (B := w2.heap.size) (a := w2) (by with_reducible (repeat (first | (refine below_drewN ?_ _) | (refine Below.drew ?_) | (refine below_alloc ?_ (by first | omega | (simp; done) | (simp; omega)) _) | (refine Below.setCell ?_ (by first | omega | (simp; done) | (simp; omega)) _) | exact Below.refl _ _ | assumption | (refine below_call ?_ (by first | omega | (simp; done) | (simp; omega)) (by assumption))))) (Nat.le_refl _) hb3)
    replace BW := Lib.hid (BW.out.trans (kk.out.mono BW.out.size))
    replace A := Lib.hid (A.out.below kk.out A.out.lt)
    clear A_0 A_1 A_2 A_3 A_4
    obtain ⟨A_0, A_1, A_2, A_3, A_4⟩ := box2 A.out
    replace R := Lib.hid (R.out.below kk.out R.out.lt)
    clear R_0 R_1 R_2 R_3 R_4
    obtain ⟨R_0, R_1, R_2, R_3, R_4⟩ := box2 R.out
    clear hb3 kk
    go_wp2_with fail
    rw [HR.out]
    have hB := BW.out
    exact bodyPost_ret (v := .agg #[.int .i64 0, .int .i64 0]) (by simp [results, Try.results28, go_sem, *]) rfl ⟨rfl, (by with_reducible (repeat (first | (refine below_drewN ?_ _) | (refine Below.drew ?_) | (refine below_alloc ?_ (by first | omega | (simp; done) | (simp; omega)) _) | (refine Below.setCell ?_ (by first | omega | (simp; done) | (simp; omega)) _) | exact Below.refl _ _ | assumption | (refine below_call ?_ (by first | omega | (simp; done) | (simp; omega)) (by assumption)))))⟩
  have H2 := Lib.hid h2
  have hall : (adjOk s a && dbOk mine && dbOk other) = true := by rw [h0, h1, h2]; rfl
  have hsr : 0 ≤ s ∧ s ≤ 3 := by simp [adjOk, inB] at h0; omega
  obtain ⟨hs0, hs3⟩ := hsr
  have HALL := Lib.hid hall
  clear hall h1 h2
  by_cases hs2 : s < 2
  · have hr := sync_low HALL.out hs2
    have HR := Lib.hid hr
    have q2 : (s != 2) = true := by simp; omega
    have q3 : (s != 3) = true := by simp; omega
    have q4 : decide (s < 2) = true := by simp; omega
    clear hr
    go_enter Try.func28, Try.ntmps28
    go_wp2_with (go_at_call 29; refine (sAdjValid _ _ _).mono ?_; rintro e w' ⟨rfl, rfl⟩)
    rw [← HW1.out]
    refine (sDbValid mine _ _ HM.out).mono ?_
    rw [H1.out]
    rintro e w2 ⟨rfl, hb2⟩
    obtain ⟨A_0, A_1, A_2, A_3, A_4⟩ := box2 A.out
    obtain ⟨R_0, R_1, R_2, R_3, R_4⟩ := box2 R.out
    have kk := Lib.hid (below_call (B := W1.heap.size) (a := W1) (by with_reducible (repeat (first | (refine below_drewN ?_ _) | (refine Below.drew ?_) | (refine below_alloc ?_ (by first | omega | (simp; done) | (simp; omega)) _) | (refine Below.setCell ?_ (by first | omega | (simp; done) | (simp; omega)) _) | exact Below.refl _ _ | assumption | (refine below_call ?_ (by first | omega | (simp; done) | (simp; omega)) (by assumption))))) (Nat.le_refl _) hb2)
    replace BW := Lib.hid (BW.out.trans (kk.out.mono BW.out.size))
    replace A := Lib.hid (A.out.below kk.out A.out.lt)
    clear A_0 A_1 A_2 A_3 A_4
    obtain ⟨A_0, A_1, A_2, A_3, A_4⟩ := box2 A.out
    replace R := Lib.hid (R.out.below kk.out R.out.lt)
    clear R_0 R_1 R_2 R_3 R_4
    obtain ⟨R_0, R_1, R_2, R_3, R_4⟩ := box2 R.out
    replace HO := Lib.hid (HO.out.below kk.out (Nat.le_refl _))
    clear hb2 kk
    go_wp2_with fail
    refine (sDbValid other _ _ HO.out).mono ?_
    rw [H2.out]
    rintro e w3 ⟨rfl, hb3⟩
    have kk := Lib.hid (below_call (B := w2.heap.size) (a := w2) (by with_reducible (repeat (first | (refine below_drewN ?_ _) | (refine Below.drew ?_) | (refine below_alloc ?_ (by first | omega | (simp; done) | (simp; omega)) _) | (refine Below.setCell ?_ (by first | omega | (simp; done) | (simp; omega)) _) | exact Below.refl _ _ | assumption | (refine below_call ?_ (by first | omega | (simp; done) | (simp; omega)) (by assumption))))) (Nat.le_refl _) hb3)
    replace BW := Lib.hid (BW.out.trans (kk.out.mono BW.out.size))
    replace A := Lib.hid (A.out.below kk.out A.out.lt)
    clear A_0 A_1 A_2 A_3 A_4
    obtain ⟨A_0, A_1, A_2, A_3, A_4⟩ := box2 A.out
    replace R := Lib.hid (R.out.below kk.out R.out.lt)
    clear R_0 R_1 R_2 R_3 R_4
    obtain ⟨R_0, R_1, R_2, R_3, R_4⟩ := box2 R.out
    clear hb3 kk
    go_wp2_with fail
    rw [HR.out]
    have hB := BW.out
    exact bodyPost_ret (v := .agg #[.int .i64 s, .int .i64 a]) (by simp [results, Try.results28, go_sem, *]) rfl ⟨rfl, (by with_reducible (repeat (first | (refine below_drewN ?_ _) | (refine Below.drew ?_) | (refine below_alloc ?_ (by first | omega | (simp; done) | (simp; omega)) _) | (refine Below.setCell ?_ (by first | omega | (simp; done) | (simp; omega)) _) | exact Below.refl _ _ | assumption | (refine below_call ?_ (by first | omega | (simp; done) | (simp; omega)) (by assumption)))))⟩
  have HS2 := Lib.hid hs2
  have q4 : decide (s < 2) = false := by simp; omega
  have q2 : s = 2 ∨ s = 3 := by omega
  obtain ⟨p, hp⟩ : ∃ p, missD mine other = p := ⟨_, rfl⟩
  obtain ⟨q, hq⟩ : ∃ q, missD other mine = q := ⟨_, rfl⟩
  obtain ⟨pn, hpn⟩ : ∃ n, p.length = n := ⟨_, rfl⟩
  obtain ⟨qn, hqn⟩ : ∃ n, q.length = n := ⟨_, rfl⟩
  have HP := Lib.hid hp; have HQ := Lib.hid hq; have HPN := Lib.hid hpn; have HQN := Lib.hid hqn
  clear hp hq hs2 hpn hqn
  have q2' : (s != 2 && s != 3) = false := by rcases q2 with rfl | rfl <;> rfl
  have hs2n : ¬ s < 2 := by omega
  by_cases hz1 : pn = 0
  · by_cases hz2 : qn = 0
    · have hr := sync_full HALL.out hs2n (by rw [HP.out]; exact List.eq_nil_of_length_eq_zero (by rw [HPN.out, hz1])) (by rw [HQ.out]; exact List.eq_nil_of_length_eq_zero (by rw [HQN.out, hz2]))
      have HR := Lib.hid hr
      clear hr hs2n
      subst hz1 hz2
      have y1 : (((0:Nat):Int) == 0) = true := rfl
      rcases q2 with rfl | rfl
      all_goals
        go_enter Try.func28, Try.ntmps28
        go_wp2_with (go_at_call 29; refine (sAdjValid _ _ _).mono ?_; rintro e w' ⟨rfl, rfl⟩)
        rw [← HW1.out]
        refine (sDbValid mine _ _ HM.out).mono ?_
        rw [H1.out]
        rintro e w2 ⟨rfl, hb2⟩
        obtain ⟨A_0, A_1, A_2, A_3, A_4⟩ := box2 A.out
        obtain ⟨R_0, R_1, R_2, R_3, R_4⟩ := box2 R.out
        have kk := Lib.hid (below_call (B := W1.heap.size) (a := W1) (by with_reducible (repeat (first | (refine below_drewN ?_ _) | (refine Below.drew ?_) | (refine below_alloc ?_ (by first | omega | (simp; done) | (simp; omega)) _) | (refine Below.setCell ?_ (by first | omega | (simp; done) | (simp; omega)) _) | exact Below.refl _ _ | assumption | (refine below_call ?_ (by first | omega | (simp; done) | (simp; omega)) (by assumption))))) (Nat.le_refl _) hb2)
        replace BW := Lib.hid (BW.out.trans (kk.out.mono BW.out.size))
        replace A := Lib.hid (A.out.below kk.out A.out.lt)
        clear A_0 A_1 A_2 A_3 A_4
        obtain ⟨A_0, A_1, A_2, A_3, A_4⟩ := box2 A.out
        replace R := Lib.hid (R.out.below kk.out R.out.lt)
        clear R_0 R_1 R_2 R_3 R_4
        obtain ⟨R_0, R_1, R_2, R_3, R_4⟩ := box2 R.out
        replace HO := Lib.hid (HO.out.below kk.out (Nat.le_refl _))
        clear hb2 kk
        go_wp2_with fail
        refine (sDbValid other _ _ HO.out).mono ?_
        rw [H2.out]
        rintro e w3 ⟨rfl, hb3⟩
        have kk := Lib.hid (below_call (B := w2.heap.size) (a := w2) (by with_reducible (repeat (first | (refine below_drewN ?_ _) | (refine Below.drew ?_) | (refine below_alloc ?_ (by first | omega | (simp; done) | (simp; omega)) _) | (refine Below.setCell ?_ (by first | omega | (simp; done) | (simp; omega)) _) | exact Below.refl _ _ | assumption | (refine below_call ?_ (by first | omega | (simp; done) | (simp; omega)) (by assumption))))) (Nat.le_refl _) hb3)
        replace BW := Lib.hid (BW.out.trans (kk.out.mono BW.out.size))
        replace A := Lib.hid (A.out.below kk.out A.out.lt)
        clear A_0 A_1 A_2 A_3 A_4
        obtain ⟨A_0, A_1, A_2, A_3, A_4⟩ := box2 A.out
        replace R := Lib.hid (R.out.below kk.out R.out.lt)
        clear R_0 R_1 R_2 R_3 R_4
        obtain ⟨R_0, R_1, R_2, R_3, R_4⟩ := box2 R.out
        clear hb3 kk
        go_wp2_with fail
        refine (sMissD mine other _ _ _ (HM0.out.below (by have hB := BW.out; exact (by with_reducible (repeat (first | (refine below_drewN ?_ _) | (refine Below.drew ?_) | (refine below_alloc ?_ (by first | omega | (simp; done) | (simp; omega)) _) | (refine Below.setCell ?_ (by first | omega | (simp; done) | (simp; omega)) _) | exact Below.refl _ _ | assumption | (refine below_call ?_ (by first | omega | (simp; done) | (simp; omega)) (by assumption)))))) (Nat.le_refl _)) (HO0.out.below (by have hB := BW.out; exact (by with_reducible (repeat (first | (refine below_drewN ?_ _) | (refine Below.drew ?_) | (refine below_alloc ?_ (by first | omega | (simp; done) | (simp; omega)) _) | (refine Below.setCell ?_ (by first | omega | (simp; done) | (simp; omega)) _) | exact Below.refl _ _ | assumption | (refine below_call ?_ (by first | omega | (simp; done) | (simp; omega)) (by assumption)))))) (Nat.le_refl _)) H1.out H2.out).mono ?_
        rw [HP.out]
        rintro e w4 ⟨r4, rfl, hO4, hb4⟩
        obtain ⟨ra, rc, rfl⟩ := own_slice hO4.1
        rw [HPN.out]
        have hB := BW.out
        have BW4 := Lib.hid (below_call (B := w.heap.size) (a := w) (by with_reducible (repeat (first | (refine below_drewN ?_ _) | (refine Below.drew ?_) | (refine below_alloc ?_ (by first | omega | (simp; done) | (simp; omega)) _) | (refine Below.setCell ?_ (by first | omega | (simp; done) | (simp; omega)) _) | exact Below.refl _ _ | assumption | (refine below_call ?_ (by first | omega | (simp; done) | (simp; omega)) (by assumption))))) (Nat.le_refl _) hb4)
        have A4 := Lib.hid (Box.call hb4 A.out)
        have R4 := Lib.hid (Box.call hb4 R.out)
        clear hB hO4 hb4 A_0 A_1 A_2 A_3 A_4 R_0 R_1 R_2 R_3 R_4
        obtain ⟨A_0, A_1, A_2, A_3, A_4⟩ := box2 A4.out
        obtain ⟨R_0, R_1, R_2, R_3, R_4⟩ := box2 R4.out
        go_wp2_with fail
        refine (sMissD other mine _ _ _ (HO0.out.below BW4.out (Nat.le_refl _)) (HM0.out.below BW4.out (Nat.le_refl _)) H2.out H1.out).mono ?_
        rw [HQ.out]
        rintro e w5 ⟨r5, rfl, hO5, hb5⟩
        obtain ⟨sa, sc, rfl⟩ := own_slice hO5.1
        rw [HQN.out]
        have kk := Lib.hid (below_call (B := w4.heap.size) (a := w4) (by with_reducible (repeat (first | (refine below_drewN ?_ _) | (refine Below.drew ?_) | (refine below_alloc ?_ (by first | omega | (simp; done) | (simp; omega)) _) | (refine Below.setCell ?_ (by first | omega | (simp; done) | (simp; omega)) _) | exact Below.refl _ _ | assumption | (refine below_call ?_ (by first | omega | (simp; done) | (simp; omega)) (by assumption))))) (Nat.le_refl _) hb5)
        replace BW4 := Lib.hid (BW4.out.trans (kk.out.mono BW4.out.size))
        replace A4 := Lib.hid (A4.out.below kk.out A4.out.lt)
        replace R4 := Lib.hid (R4.out.below kk.out R4.out.lt)
        clear hb5 kk hO5 A_0 A_1 A_2 A_3 A_4 R_0 R_1 R_2 R_3 R_4
        obtain ⟨A_0, A_1, A_2, A_3, A_4⟩ := box2 A4.out
        obtain ⟨R_0, R_1, R_2, R_3, R_4⟩ := box2 R4.out
        go_wp2_with fail
        rw [HR.out]
        have hB := BW4.out
        exact bodyPost_ret (v := .agg #[.int .i64 3, .int .i64 a]) (by simp [results, Try.results28, go_sem, *]) rfl ⟨rfl, (by with_reducible (repeat (first | (refine below_drewN ?_ _) | (refine Below.drew ?_) | (refine below_alloc ?_ (by first | omega | (simp; done) | (simp; omega)) _) | (refine Below.setCell ?_ (by first | omega | (simp; done) | (simp; omega)) _) | exact Below.refl _ _ | assumption | (refine below_call ?_ (by first | omega | (simp; done) | (simp; omega)) (by assumption)))))⟩
    · have hr := sync_two HALL.out hs2n (.inr (by rw [HQ.out]; intro h; apply hz2; rw [← HQN.out, h]; rfl))
      have HR := Lib.hid hr
      clear hr hs2n
      subst hz1
      have y1 : (((0:Nat):Int) == 0) = true := rfl
      have y2 : ((qn:Int) == 0) = false := by simp; omega
      rcases q2 with rfl | rfl
      all_goals
        go_enter Try.func28, Try.ntmps28
        go_wp2_with (go_at_call 29; refine (sAdjValid _ _ _).mono ?_; rintro e w' ⟨rfl, rfl⟩)
        rw [← HW1.out]
        refine (sDbValid mine _ _ HM.out).mono ?_
        rw [H1.out]
        rintro e w2 ⟨rfl, hb2⟩
        obtain ⟨A_0, A_1, A_2, A_3, A_4⟩ := box2 A.out
        obtain ⟨R_0, R_1, R_2, R_3, R_4⟩ := box2 R.out
        have kk := Lib.hid (below_call (B := W1.heap.size) (a := W1) (by with_reducible (repeat (first | (refine below_drewN ?_ _) | (refine Below.drew ?_) | (refine below_alloc ?_ (by first | omega | (simp; done) | (simp; omega)) _) | (refine Below.setCell ?_ (by first | omega | (simp; done) | (simp; omega)) _) | exact Below.refl _ _ | assumption | (refine below_call ?_ (by first | omega | (simp; done) | (simp; omega)) (by assumption))))) (Nat.le_refl _) hb2)
        replace BW := Lib.hid (BW.out.trans (kk.out.mono BW.out.size))
        replace A := Lib.hid (A.out.below kk.out A.out.lt)
        clear A_0 A_1 A_2 A_3 A_4
        obtain ⟨A_0, A_1, A_2, A_3, A_4⟩ := box2 A.out
        replace R := Lib.hid (R.out.below kk.out R.out.lt)
        clear R_0 R_1 R_2 R_3 R_4
        obtain ⟨R_0, R_1, R_2, R_3, R_4⟩ := box2 R.out
        replace HO := Lib.hid (HO.out.below kk.out (Nat.le_refl _))
        clear hb2 kk
        go_wp2_with fail
        refine (sDbValid other _ _ HO.out).mono ?_
        rw [H2.out]
        rintro e w3 ⟨rfl, hb3⟩
        have kk := Lib.hid (below_call (B := w2.heap.size) (a := w2) (by with_reducible (repeat (first | (refine below_drewN ?_ _) | (refine Below.drew ?_) | (refine below_alloc ?_ (by first | omega | (simp; done) | (simp; omega)) _) | (refine Below.setCell ?_ (by first | omega | (simp; done) | (simp; omega)) _) | exact Below.refl _ _ | assumption | (refine below_call ?_ (by first | omega | (simp; done) | (simp; omega)) (by assumption))))) (Nat.le_refl _) hb3)
        replace BW := Lib.hid (BW.out.trans (kk.out.mono BW.out.size))
        replace A := Lib.hid (A.out.below kk.out A.out.lt)
        clear A_0 A_1 A_2 A_3 A_4
        obtain ⟨A_0, A_1, A_2, A_3, A_4⟩ := box2 A.out
        replace R := Lib.hid (R.out.below kk.out R.out.lt)
        clear R_0 R_1 R_2 R_3 R_4
        obtain ⟨R_0, R_1, R_2, R_3, R_4⟩ := box2 R.out
        clear hb3 kk
        go_wp2_with fail
        refine (sMissD mine other _ _ _ (HM0.out.below (by have hB := BW.out; exact (by with_reducible (repeat (first | (refine below_drewN ?_ _) | (refine Below.drew ?_) | (refine below_alloc ?_ (by first | omega | (simp; done) | (simp; omega)) _) | (refine Below.setCell ?_ (by first | omega | (simp; done) | (simp; omega)) _) | exact Below.refl _ _ | assumption | (refine below_call ?_ (by first | omega | (simp; done) | (simp; omega)) (by assumption)))))) (Nat.le_refl _)) (HO0.out.below (by have hB := BW.out; exact (by with_reducible (repeat (first | (refine below_drewN ?_ _) | (refine Below.drew ?_) | (refine below_alloc ?_ (by first | omega | (simp; done) | (simp; omega)) _) | (refine Below.setCell ?_ (by first | omega | (simp; done) | (simp; omega)) _) | exact Below.refl _ _ | assumption | (refine below_call ?_ (by first | omega | (simp; done) | (simp; omega)) (by assumption)))))) (Nat.le_refl _)) H1.out H2.out).mono ?_
        rw [HP.out]
        rintro e w4 ⟨r4, rfl, hO4, hb4⟩
        obtain ⟨ra, rc, rfl⟩ := own_slice hO4.1
        rw [HPN.out]
        have hB := BW.out
        have BW4 := Lib.hid (below_call (B := w.heap.size) (a := w) (by with_reducible (repeat (first | (refine below_drewN ?_ _) | (refine Below.drew ?_) | (refine below_alloc ?_ (by first | omega | (simp; done) | (simp; omega)) _) | (refine Below.setCell ?_ (by first | omega | (simp; done) | (simp; omega)) _) | exact Below.refl _ _ | assumption | (refine below_call ?_ (by first | omega | (simp; done) | (simp; omega)) (by assumption))))) (Nat.le_refl _) hb4)
        have A4 := Lib.hid (Box.call hb4 A.out)
        have R4 := Lib.hid (Box.call hb4 R.out)
        clear hB hO4 hb4 A_0 A_1 A_2 A_3 A_4 R_0 R_1 R_2 R_3 R_4
        obtain ⟨A_0, A_1, A_2, A_3, A_4⟩ := box2 A4.out
        obtain ⟨R_0, R_1, R_2, R_3, R_4⟩ := box2 R4.out
        go_wp2_with fail
        refine (sMissD other mine _ _ _ (HO0.out.below BW4.out (Nat.le_refl _)) (HM0.out.below BW4.out (Nat.le_refl _)) H2.out H1.out).mono ?_
        rw [HQ.out]
        rintro e w5 ⟨r5, rfl, hO5, hb5⟩
        obtain ⟨sa, sc, rfl⟩ := own_slice hO5.1
        rw [HQN.out]
        have kk := Lib.hid (below_call (B := w4.heap.size) (a := w4) (by with_reducible (repeat (first | (refine below_drewN ?_ _) | (refine Below.drew ?_) | (refine below_alloc ?_ (by first | omega | (simp; done) | (simp; omega)) _) | (refine Below.setCell ?_ (by first | omega | (simp; done) | (simp; omega)) _) | exact Below.refl _ _ | assumption | (refine below_call ?_ (by first | omega | (simp; done) | (simp; omega)) (by assumption))))) (Nat.le_refl _) hb5)
        replace BW4 := Lib.hid (BW4.out.trans (kk.out.mono BW4.out.size))
        replace A4 := Lib.hid (A4.out.below kk.out A4.out.lt)
        replace R4 := Lib.hid (R4.out.below kk.out R4.out.lt)
        clear hb5 kk hO5 A_0 A_1 A_2 A_3 A_4 R_0 R_1 R_2 R_3 R_4
        obtain ⟨A_0, A_1, A_2, A_3, A_4⟩ := box2 A4.out
        obtain ⟨R_0, R_1, R_2, R_3, R_4⟩ := box2 R4.out
        go_wp2_with fail
        rw [HR.out]
        have hB := BW4.out
        exact bodyPost_ret (v := .agg #[.int .i64 2, .int .i64 a]) (by simp [results, Try.results28, go_sem, *]) rfl ⟨rfl, (by with_reducible (repeat (first | (refine below_drewN ?_ _) | (refine Below.drew ?_) | (refine below_alloc ?_ (by first | omega | (simp; done) | (simp; omega)) _) | (refine Below.setCell ?_ (by first | omega | (simp; done) | (simp; omega)) _) | exact Below.refl _ _ | assumption | (refine below_call ?_ (by first | omega | (simp; done) | (simp; omega)) (by assumption)))))⟩
  · have hr := sync_two HALL.out hs2n (.inl (by rw [HP.out]; intro h; apply hz1; rw [← HPN.out, h]; rfl))
    have HR := Lib.hid hr
    clear hr hs2n
    have y1 : ((pn:Int) == 0) = false := by simp; omega
    rcases q2 with rfl | rfl
    all_goals
      go_enter Try.func28, Try.ntmps28
      go_wp2_with (go_at_call 29; refine (sAdjValid _ _ _).mono ?_; rintro e w' ⟨rfl, rfl⟩)
      rw [← HW1.out]
      refine (sDbValid mine _ _ HM.out).mono ?_
      rw [H1.out]
      rintro e w2 ⟨rfl, hb2⟩
      obtain ⟨A_0, A_1, A_2, A_3, A_4⟩ := box2 A.out
      obtain ⟨R_0, R_1, R_2, R_3, R_4⟩ := box2 R.out
      have kk := Lib.hid (below_call (B := W1.heap.size) (a := W1) (by with_reducible (repeat (first | (refine below_drewN ?_ _) | (refine Below.drew ?_) | (refine below_alloc ?_ (by first | omega | (simp; done) | (simp; omega)) _) | (refine Below.setCell ?_ (by first | omega | (simp; done) | (simp; omega)) _) | exact Below.refl _ _ | assumption | (refine below_call ?_ (by first | omega | (simp; done) | (simp; omega)) (by assumption))))) (Nat.le_refl _) hb2)
      replace BW := Lib.hid (BW.out.trans (kk.out.mono BW.out.size))
      replace A := Lib.hid (A.out.below kk.out A.out.lt)
      clear A_0 A_1 A_2 A_3 A_4
      obtain ⟨A_0, A_1, A_2, A_3, A_4⟩ := box2 A.out
      replace R := Lib.hid (R.out.below kk.out R.out.lt)
      clear R_0 R_1 R_2 R_3 R_4
      obtain ⟨R_0, R_1, R_2, R_3, R_4⟩ := box2 R.out
      replace HO := Lib.hid (HO.out.below kk.out (Nat.le_refl _))
      clear hb2 kk
      go_wp2_with fail
      refine (sDbValid other _ _ HO.out).mono ?_
      rw [H2.out]
      rintro e w3 ⟨rfl, hb3⟩
      have kk := Lib.hid (below_call (B := w2.heap.size) (a := w2) (by with_reducible (repeat (first | (refine below_drewN ?_ _) | (refine Below.drew ?_) | (refine below_alloc ?_ (by first | omega | (simp; done) | (simp; omega)) _) | (refine Below.setCell ?_ (by first | omega | (simp; done) | (simp; omega)) _) | exact Below.refl _ _ | assumption | (refine below_call ?_ (by first | omega | (simp; done) | (simp; omega)) (by assumption))))) (Nat.le_refl _) hb3)
      replace BW := Lib.hid (BW.out.trans (kk.out.mono BW.out.size))
      replace A := Lib.hid (A.out.below kk.out A.out.lt)
      clear A_0 A_1 A_2 A_3 A_4
      obtain ⟨A_0, A_1, A_2, A_3, A_4⟩ := box2 A.out
      replace R := Lib.hid (R.out.below kk.out R.out.lt)
      clear R_0 R_1 R_2 R_3 R_4
      obtain ⟨R_0, R_1, R_2, R_3, R_4⟩ := box2 R.out
      clear hb3 kk
      go_wp2_with fail
      refine (sMissD mine other _ _ _ (HM0.out.below (by have hB := BW.out; exact (by with_reducible (repeat (first | (refine below_drewN ?_ _) | (refine Below.drew ?_) | (refine below_alloc ?_ (by first | omega | (simp; done) | (simp; omega)) _) | (refine Below.setCell ?_ (by first | omega | (simp; done) | (simp; omega)) _) | exact Below.refl _ _ | assumption | (refine below_call ?_ (by first | omega | (simp; done) | (simp; omega)) (by assumption)))))) (Nat.le_refl _)) (HO0.out.below (by have hB := BW.out; exact (by with_reducible (repeat (first | (refine below_drewN ?_ _) | (refine Below.drew ?_) | (refine below_alloc ?_ (by first | omega | (simp; done) | (simp; omega)) _) | (refine Below.setCell ?_ (by first | omega | (simp; done) | (simp; omega)) _) | exact Below.refl _ _ | assumption | (refine below_call ?_ (by first | omega | (simp; done) | (simp; omega)) (by assumption)))))) (Nat.le_refl _)) H1.out H2.out).mono ?_
      rw [HP.out]
      rintro e w4 ⟨r4, rfl, hO4, hb4⟩
      obtain ⟨ra, rc, rfl⟩ := own_slice hO4.1
      rw [HPN.out]
      have hB := BW.out
      have BW4 := Lib.hid (below_call (B := w.heap.size) (a := w) (by with_reducible (repeat (first | (refine below_drewN ?_ _) | (refine Below.drew ?_) | (refine below_alloc ?_ (by first | omega | (simp; done) | (simp; omega)) _) | (refine Below.setCell ?_ (by first | omega | (simp; done) | (simp; omega)) _) | exact Below.refl _ _ | assumption | (refine below_call ?_ (by first | omega | (simp; done) | (simp; omega)) (by assumption))))) (Nat.le_refl _) hb4)
      have A4 := Lib.hid (Box.call hb4 A.out)
      have R4 := Lib.hid (Box.call hb4 R.out)
      clear hB hO4 hb4 A_0 A_1 A_2 A_3 A_4 R_0 R_1 R_2 R_3 R_4
      obtain ⟨A_0, A_1, A_2, A_3, A_4⟩ := box2 A4.out
      obtain ⟨R_0, R_1, R_2, R_3, R_4⟩ := box2 R4.out
      go_wp2_with fail
      rw [HR.out]
      have hB := BW4.out
      exact bodyPost_ret (v := .agg #[.int .i64 2, .int .i64 a]) (by simp [results, Try.results28, go_sem, *]) rfl ⟨rfl, (by with_reducible (repeat (first | (refine below_drewN ?_ _) | (refine Below.drew ?_) | (refine below_alloc ?_ (by first | omega | (simp; done) | (simp; omega)) _) | (refine Below.setCell ?_ (by first | omega | (simp; done) | (simp; omega)) _) | exact Below.refl _ _ | assumption | (refine below_call ?_ (by first | omega | (simp; done) | (simp; omega)) (by assumption)))))⟩
end Go.Proofs.Ytidcpdolcbbnjaa
