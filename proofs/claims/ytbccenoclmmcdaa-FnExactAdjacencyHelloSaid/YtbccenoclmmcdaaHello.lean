/- AdjacencyHello of the program and of the reference. -/
import Derived.Test.YtbccenoclmmcdaaAdj
import Derived.Test.YtbccenoclmmcdaaInts
namespace Go.Proofs.Ytbccenoclmmcdaa
open Go.RowKit

def helloSt (s a me : Int) (heard : List Int) : Int :=
  if adjOk s a && inB me 0 7 && nodesOk heard then (if hasI heard me then (if s == 3 then 3 else 2) else 1) else 0
def helloOk (s a me : Int) (heard : List Int) : Bool := adjOk s a && inB me 0 7 && nodesOk heard
theorem ret_hello {b : Bool} {s r : Int} (hs : s = r) {c : Bool} (hb : b = c) : Ending.returned (.tuple #[.agg #[.int .i64 s, .int .i64 0], .bool b]) = .returned (.tuple #[.agg #[.int .i64 r, .int .i64 0], .bool c]) := by rw [hs, hb]

set_option maxHeartbeats 1000000 in
theorem iHello (s a me : Int) (heard : List Int) (v : Value) (w : World) (h : IntsAt w v heard) :
    Calls Try.prog 22 #[.agg #[.int .i64 s, .int .i64 a], .int .i64 me, v] w fun e w' => e = .returned (.tuple #[.agg #[.int .i64 (helloSt s a me heard), .int .i64 0], .bool (helloOk s a me heard)]) ∧ Below w.heap.size w w' := by
  have h1 : ∀ o, IntsAt (w.alloc o) v heard := fun o => h.below ((Below.refl _ _).alloc (Nat.le_refl _) _) (Nat.le_refl _)
  have h2 : ∀ o1 o2, IntsAt ((w.alloc o1).alloc o2) v heard := fun o1 o2 => h.below (((Below.refl _ _).alloc (Nat.le_refl _) _).alloc (by simp) _) (Nat.le_refl _)
  have h3 : ∀ o1 o2 o3, IntsAt (((w.alloc o1).alloc o2).alloc o3) v heard := fun o1 o2 o3 => h.below ((((Below.refl _ _).alloc (Nat.le_refl _) _).alloc (by simp) _).alloc (by simp; omega) _) (Nat.le_refl _)
  have H3 := Lib.hid h3; clear h1 h2 h3
  rcases Bool.eq_false_or_eq_true (adjOk s a) with ka | ka
  rotate_left
  · go_enter Try.func22, Try.ntmps22
    go_wp2_with (go_at_call 53; refine (iAdjValid _ _ _).mono ?_; rintro e w' ⟨rfl, rfl⟩)
    exact bodyPost_ret (v := .tuple #[.agg #[.int .i64 0, .int .i64 0], .bool false]) (by simp [results, Try.results22, go_sem]) rfl ⟨ret_hello (by simp [helloSt, ka]) (by simp [helloOk, ka]), (by with_reducible (repeat (first | (refine below_drewN ?_ _) | (refine Below.drew ?_) | (refine below_alloc ?_ (by first | omega | (simp; done) | (simp; omega)) _) | (refine Below.setCell ?_ (by first | omega | (simp; done) | (simp; omega)) _) | exact Below.refl _ _ | assumption | (refine below_call ?_ (by first | omega | (simp; done) | (simp; omega)) (by assumption)))))⟩
  rcases Bool.eq_false_or_eq_true (inB me 0 7) with km | km
  rotate_left
  · go_enter Try.func22, Try.ntmps22
    go_wp2_with (first | (go_at_call 53; refine (iAdjValid _ _ _).mono ?_; rintro e w' ⟨rfl, rfl⟩) | (go_at_call 46; refine (within_any _ _ _ _).mono ?_; rintro e w' ⟨rfl, rfl⟩))
    exact bodyPost_ret (v := .tuple #[.agg #[.int .i64 0, .int .i64 0], .bool false]) (by simp [results, Try.results22, go_sem]) rfl ⟨ret_hello (by simp [helloSt, km]) (by simp [helloOk, km]), (by with_reducible (repeat (first | (refine below_drewN ?_ _) | (refine Below.drew ?_) | (refine below_alloc ?_ (by first | omega | (simp; done) | (simp; omega)) _) | (refine Below.setCell ?_ (by first | omega | (simp; done) | (simp; omega)) _) | exact Below.refl _ _ | assumption | (refine below_call ?_ (by first | omega | (simp; done) | (simp; omega)) (by assumption)))))⟩
  have hbx0 := fun c0 c1 c2 => ((box_new w c0 41).alloc (.cells c1 41)).alloc (.cells c2 41)
  have hbx1 := fun (c0 : Obj) c1 c2 => (box_new (w.alloc c0) c1 41).alloc (.cells c2 41)
  have HB0 := Lib.hid hbx0; clear hbx0
  have HB1 := Lib.hid hbx1; clear hbx1
  go_enter Try.func22, Try.ntmps22
  go_wp2_with (first | (go_at_call 53; refine (iAdjValid _ _ _).mono ?_; rintro e w' ⟨rfl, rfl⟩) | (go_at_call 46; refine (within_any _ _ _ _).mono ?_; rintro e w' ⟨rfl, rfl⟩))
  refine (nodesAscend_any heard v _ (H3.out _ _ _)).mono ?_
  rintro e w1 ⟨rfl, hb⟩
  obtain ⟨c0, c1, f0, f1, l0⟩ := box2 ((HB0.out _ _ _).below hb (by simp; omega))
  obtain ⟨d0, d1, g0, g1, l1⟩ := box2 ((HB1.out _ _ _).below hb (by simp))
  simp only [World.size_alloc] at d0 d1 g0 g1 l1
  have h4 := h.below (below_call (((((Below.refl _ _).alloc (Nat.le_refl _) _).alloc (by simp) _).alloc (by simp; omega) _)) (Nat.le_refl _) hb) (Nat.le_refl _)
  have hbb := below_call (((((Below.refl _ w).alloc (Nat.le_refl _) _).alloc (by simp) _).alloc (by simp; omega) _)) (Nat.le_refl _) hb
  have H4 := Lib.hid h4; clear h4
  rcases Bool.eq_false_or_eq_true (nodesOk heard) with kn | kn
  rotate_left
  · go_wp2_with fail
    exact bodyPost_ret (v := .tuple #[.agg #[.int .i64 0, .int .i64 0], .bool false]) (by simp [results, Try.results22, go_sem, d0, d1, g0, g1]) rfl ⟨ret_hello (by simp [helloSt, kn]) (by simp [helloOk, kn]), (by with_reducible (repeat (first | (refine below_drewN ?_ _) | (refine Below.drew ?_) | (refine below_alloc ?_ (by first | omega | (simp; done) | (simp; omega)) _) | (refine Below.setCell ?_ (by first | omega | (simp; done) | (simp; omega)) _) | exact Below.refl _ _ | assumption | (refine below_call ?_ (by first | omega | (simp; done) | (simp; omega)) (by assumption)))))⟩
  rcases Bool.eq_false_or_eq_true (hasI heard me) with kh | kh
  rotate_left
  · go_wp2_with (go_at_call 55; refine (contains_any heard me v _ H4.out).mono ?_; rintro e w' ⟨rfl, rfl⟩)
    exact bodyPost_ret (v := .tuple #[.agg #[.int .i64 1, .int .i64 0], .bool true]) (by simp [results, Try.results22, go_sem, d0, d1, g0, g1]) rfl ⟨ret_hello (by simp [helloSt, kn, km, ka, kh]) (by simp [helloOk, kn, km, ka]), (by with_reducible (repeat (first | (refine below_drewN ?_ _) | (refine Below.drew ?_) | (refine below_alloc ?_ (by first | omega | (simp; done) | (simp; omega)) _) | (refine Below.setCell ?_ (by first | omega | (simp; done) | (simp; omega)) _) | exact Below.refl _ _ | assumption | (refine below_call ?_ (by first | omega | (simp; done) | (simp; omega)) (by assumption)))))⟩
  have hs : (s = 0 ∨ s = 1 ∨ s = 2) ∨ s = 3 := by simp [adjOk, inB] at ka; omega
  rcases hs with hs | rfl
  · rcases hs with rfl | rfl | rfl
    all_goals
      have e0 : ((0:Int) == 3) = false := rfl
      have e1 : ((1:Int) == 3) = false := rfl
      have e2 : ((2:Int) == 3) = false := rfl
      have e3 : ((3:Int) == 3) = true := rfl
      have m0 : max (0:Int) 2 = 2 := rfl
      have m1 : max (1:Int) 2 = 2 := rfl
      have m2 : max (2:Int) 2 = 2 := rfl
      have m3 : max (3:Int) 2 = 3 := rfl
      go_wp2_with (go_at_call 55; refine (contains_any heard me v _ H4.out).mono ?_; rintro e w' ⟨rfl, rfl⟩)
      exact bodyPost_ret (v := .tuple #[.agg #[.int .i64 2, .int .i64 0], .bool true]) (by simp [results, Try.results22, go_sem, d0, d1, g0, g1]) rfl ⟨ret_hello (by simp [helloSt, kn, km, ka, kh]) (by simp [helloOk, kn, km, ka]), (by with_reducible (repeat (first | (refine below_drewN ?_ _) | (refine Below.drew ?_) | (refine below_alloc ?_ (by first | omega | (simp; done) | (simp; omega)) _) | (refine Below.setCell ?_ (by first | omega | (simp; done) | (simp; omega)) _) | exact Below.refl _ _ | assumption | (refine below_call ?_ (by first | omega | (simp; done) | (simp; omega)) (by assumption)))))⟩
  · have e0 : ((0:Int) == 3) = false := rfl
    have e1 : ((1:Int) == 3) = false := rfl
    have e2 : ((2:Int) == 3) = false := rfl
    have e3 : ((3:Int) == 3) = true := rfl
    have m0 : max (0:Int) 2 = 2 := rfl
    have m1 : max (1:Int) 2 = 2 := rfl
    have m2 : max (2:Int) 2 = 2 := rfl
    have m3 : max (3:Int) 2 = 3 := rfl
    go_wp2_with (go_at_call 55; refine (contains_any heard me v _ H4.out).mono ?_; rintro e w' ⟨rfl, rfl⟩)
    exact bodyPost_ret (v := .tuple #[.agg #[.int .i64 3, .int .i64 0], .bool true]) (by simp [results, Try.results22, go_sem, d0, d1, g0, g1]) rfl ⟨ret_hello (by simp [helloSt, kn, km, ka, kh]) (by simp [helloOk, kn, km, ka]), (by with_reducible (repeat (first | (refine below_drewN ?_ _) | (refine Below.drew ?_) | (refine below_alloc ?_ (by first | omega | (simp; done) | (simp; omega)) _) | (refine Below.setCell ?_ (by first | omega | (simp; done) | (simp; omega)) _) | exact Below.refl _ _ | assumption | (refine below_call ?_ (by first | omega | (simp; done) | (simp; omega)) (by assumption)))))⟩
set_option maxHeartbeats 1000000 in
theorem sHello (s a me : Int) (heard : List Int) (v : Value) (w : World) (h : IntsAt w v heard) :
    Calls Try.prog 19 #[.agg #[.int .i64 s, .int .i64 a], .int .i64 me, v] w fun e w' => e = .returned (.tuple #[.agg #[.int .i64 (helloSt s a me heard), .int .i64 0], .bool (helloOk s a me heard)]) ∧ Below w.heap.size w w' := by
  have h1 : ∀ o, IntsAt (w.alloc o) v heard := fun o => h.below ((Below.refl _ _).alloc (Nat.le_refl _) _) (Nat.le_refl _)
  have h2 : ∀ o1 o2, IntsAt ((w.alloc o1).alloc o2) v heard := fun o1 o2 => h.below (((Below.refl _ _).alloc (Nat.le_refl _) _).alloc (by simp) _) (Nat.le_refl _)
  have h3 : ∀ o1 o2 o3, IntsAt (((w.alloc o1).alloc o2).alloc o3) v heard := fun o1 o2 o3 => h.below ((((Below.refl _ _).alloc (Nat.le_refl _) _).alloc (by simp) _).alloc (by simp; omega) _) (Nat.le_refl _)
  have H3 := Lib.hid h3; clear h1 h2 h3
  rcases Bool.eq_false_or_eq_true (adjOk s a) with ka | ka
  rotate_left
  · go_enter Try.func19, Try.ntmps19
    go_wp2_with (go_at_call 37; refine (sAdjValid _ _ _).mono ?_; rintro e w' ⟨rfl, rfl⟩)
    exact bodyPost_ret (v := .tuple #[.agg #[.int .i64 0, .int .i64 0], .bool false]) (by simp [results, Try.results19, go_sem]) rfl ⟨ret_hello (by simp [helloSt, ka]) (by simp [helloOk, ka]), (by with_reducible (repeat (first | (refine below_drewN ?_ _) | (refine Below.drew ?_) | (refine below_alloc ?_ (by first | omega | (simp; done) | (simp; omega)) _) | (refine Below.setCell ?_ (by first | omega | (simp; done) | (simp; omega)) _) | exact Below.refl _ _ | assumption | (refine below_call ?_ (by first | omega | (simp; done) | (simp; omega)) (by assumption)))))⟩
  rcases Bool.eq_false_or_eq_true (inB me 0 7) with km | km
  rotate_left
  · go_enter Try.func19, Try.ntmps19
    go_wp2_with (first | (go_at_call 37; refine (sAdjValid _ _ _).mono ?_; rintro e w' ⟨rfl, rfl⟩) | (go_at_call 47; refine (l6In_any _ _ _ _).mono ?_; rintro e w' ⟨rfl, rfl⟩))
    exact bodyPost_ret (v := .tuple #[.agg #[.int .i64 0, .int .i64 0], .bool false]) (by simp [results, Try.results19, go_sem]) rfl ⟨ret_hello (by simp [helloSt, km]) (by simp [helloOk, km]), (by with_reducible (repeat (first | (refine below_drewN ?_ _) | (refine Below.drew ?_) | (refine below_alloc ?_ (by first | omega | (simp; done) | (simp; omega)) _) | (refine Below.setCell ?_ (by first | omega | (simp; done) | (simp; omega)) _) | exact Below.refl _ _ | assumption | (refine below_call ?_ (by first | omega | (simp; done) | (simp; omega)) (by assumption)))))⟩
  have hbx0 := fun c0 c1 c2 => ((box_new w c0 41).alloc (.cells c1 41)).alloc (.cells c2 41)
  have hbx1 := fun (c0 : Obj) c1 c2 => (box_new (w.alloc c0) c1 41).alloc (.cells c2 41)
  have HB0 := Lib.hid hbx0; clear hbx0
  have HB1 := Lib.hid hbx1; clear hbx1
  go_enter Try.func19, Try.ntmps19
  go_wp2_with (first | (go_at_call 37; refine (sAdjValid _ _ _).mono ?_; rintro e w' ⟨rfl, rfl⟩) | (go_at_call 47; refine (l6In_any _ _ _ _).mono ?_; rintro e w' ⟨rfl, rfl⟩))
  refine (l12Nodes_any heard v _ (H3.out _ _ _)).mono ?_
  rintro e w1 ⟨rfl, hb⟩
  obtain ⟨c0, c1, f0, f1, l0⟩ := box2 ((HB0.out _ _ _).below hb (by simp; omega))
  obtain ⟨d0, d1, g0, g1, l1⟩ := box2 ((HB1.out _ _ _).below hb (by simp))
  simp only [World.size_alloc] at d0 d1 g0 g1 l1
  have h4 := h.below (below_call (((((Below.refl _ _).alloc (Nat.le_refl _) _).alloc (by simp) _).alloc (by simp; omega) _)) (Nat.le_refl _) hb) (Nat.le_refl _)
  have hbb := below_call (((((Below.refl _ w).alloc (Nat.le_refl _) _).alloc (by simp) _).alloc (by simp; omega) _)) (Nat.le_refl _) hb
  have H4 := Lib.hid h4; clear h4
  rcases Bool.eq_false_or_eq_true (nodesOk heard) with kn | kn
  rotate_left
  · go_wp2_with fail
    exact bodyPost_ret (v := .tuple #[.agg #[.int .i64 0, .int .i64 0], .bool false]) (by simp [results, Try.results19, go_sem, d0, d1, g0, g1]) rfl ⟨ret_hello (by simp [helloSt, kn]) (by simp [helloOk, kn]), (by with_reducible (repeat (first | (refine below_drewN ?_ _) | (refine Below.drew ?_) | (refine below_alloc ?_ (by first | omega | (simp; done) | (simp; omega)) _) | (refine Below.setCell ?_ (by first | omega | (simp; done) | (simp; omega)) _) | exact Below.refl _ _ | assumption | (refine below_call ?_ (by first | omega | (simp; done) | (simp; omega)) (by assumption)))))⟩
  rcases Bool.eq_false_or_eq_true (hasI heard me) with kh | kh
  rotate_left
  · go_wp2_with (go_at_call 52; refine (l1Has_any heard me v _ H4.out).mono ?_; rintro e w' ⟨rfl, rfl⟩)
    exact bodyPost_ret (v := .tuple #[.agg #[.int .i64 1, .int .i64 0], .bool true]) (by simp [results, Try.results19, go_sem, d0, d1, g0, g1]) rfl ⟨ret_hello (by simp [helloSt, kn, km, ka, kh]) (by simp [helloOk, kn, km, ka]), (by with_reducible (repeat (first | (refine below_drewN ?_ _) | (refine Below.drew ?_) | (refine below_alloc ?_ (by first | omega | (simp; done) | (simp; omega)) _) | (refine Below.setCell ?_ (by first | omega | (simp; done) | (simp; omega)) _) | exact Below.refl _ _ | assumption | (refine below_call ?_ (by first | omega | (simp; done) | (simp; omega)) (by assumption)))))⟩
  have hs : (s = 0 ∨ s = 1 ∨ s = 2) ∨ s = 3 := by simp [adjOk, inB] at ka; omega
  rcases hs with hs | rfl
  · rcases hs with rfl | rfl | rfl
    all_goals
      have e0 : ((0:Int) == 3) = false := rfl
      have e1 : ((1:Int) == 3) = false := rfl
      have e2 : ((2:Int) == 3) = false := rfl
      have e3 : ((3:Int) == 3) = true := rfl
      have m0 : max (0:Int) 2 = 2 := rfl
      have m1 : max (1:Int) 2 = 2 := rfl
      have m2 : max (2:Int) 2 = 2 := rfl
      have m3 : max (3:Int) 2 = 3 := rfl
      go_wp2_with (go_at_call 52; refine (l1Has_any heard me v _ H4.out).mono ?_; rintro e w' ⟨rfl, rfl⟩)
      exact bodyPost_ret (v := .tuple #[.agg #[.int .i64 2, .int .i64 0], .bool true]) (by simp [results, Try.results19, go_sem, d0, d1, g0, g1]) rfl ⟨ret_hello (by simp [helloSt, kn, km, ka, kh]) (by simp [helloOk, kn, km, ka]), (by with_reducible (repeat (first | (refine below_drewN ?_ _) | (refine Below.drew ?_) | (refine below_alloc ?_ (by first | omega | (simp; done) | (simp; omega)) _) | (refine Below.setCell ?_ (by first | omega | (simp; done) | (simp; omega)) _) | exact Below.refl _ _ | assumption | (refine below_call ?_ (by first | omega | (simp; done) | (simp; omega)) (by assumption)))))⟩
  · have e0 : ((0:Int) == 3) = false := rfl
    have e1 : ((1:Int) == 3) = false := rfl
    have e2 : ((2:Int) == 3) = false := rfl
    have e3 : ((3:Int) == 3) = true := rfl
    have m0 : max (0:Int) 2 = 2 := rfl
    have m1 : max (1:Int) 2 = 2 := rfl
    have m2 : max (2:Int) 2 = 2 := rfl
    have m3 : max (3:Int) 2 = 3 := rfl
    go_wp2_with (go_at_call 52; refine (l1Has_any heard me v _ H4.out).mono ?_; rintro e w' ⟨rfl, rfl⟩)
    exact bodyPost_ret (v := .tuple #[.agg #[.int .i64 3, .int .i64 0], .bool true]) (by simp [results, Try.results19, go_sem, d0, d1, g0, g1]) rfl ⟨ret_hello (by simp [helloSt, kn, km, ka, kh]) (by simp [helloOk, kn, km, ka]), (by with_reducible (repeat (first | (refine below_drewN ?_ _) | (refine Below.drew ?_) | (refine below_alloc ?_ (by first | omega | (simp; done) | (simp; omega)) _) | (refine Below.setCell ?_ (by first | omega | (simp; done) | (simp; omega)) _) | exact Below.refl _ _ | assumption | (refine below_call ?_ (by first | omega | (simp; done) | (simp; omega)) (by assumption)))))⟩
end Go.Proofs.Ytbccenoclmmcdaa
