/- FnTickDead: for every input the call returns true, and the argument reads afterwards as before. No condition. -/
import Derived.Test.YtpcjhgglgjmomaaDraw
import Derived.Test.YtpcjhgglgjmomaaHelloB
import Derived.Test.YtpcjhgglgjmomaaRows
import Derived.Test.YtpcjhgglgjmomaaOpen
import Derived.ProofKit
import Derived.OpenShut
import Derived.ShutString
import Derived.ChangeOld
import Derived.Lib.SmallJoins
namespace Go.Proofs.Ytpcjhgglgjmomaa.lawFnTickDead
open Go.ChangeShapes Go.WideShapes Go.ChangeAt Go.RowKit Go.Joins
set_option maxHeartbeats 2000000 in
theorem walk (v : Value) (w : World) (h : CodeAt w v) :
    Calls Try.prog 10 #[v] w fun e w' => e = .returned (.bool true) ∧ Below w.heap.size w w' := by
  obtain ⟨a0, n, cap, b, off, rfl, hcap, hmax, ha, hc⟩ := id h
  unfold maxLen at hmax
  clear ha hc
  by_cases hn : 1048576 < n
  · go_enter Try.func10, Try.ntmps10
    go_wp2
    go_ret
    exact ⟨rfl, Below.refl _ _⟩
  go_enter Try.func10, Try.ntmps10
  go_wp2_with fail
  refine (drawHello _ _ h).mono ?_
  rintro e w1 ⟨s, a, me, hv, l, rfl, I1, hb1⟩
  have hsz := hb1.size
  have hcs := hello_cases s a me l
  rcases hcs with ⟨hr, hk⟩ | ⟨hr, hk, hh⟩ | ⟨hr, hk, hh, rfl⟩ | ⟨hr, hk, hh, hs0, hs2⟩
  · have HR := Lib.hid hr; have HK := Lib.hid hk
    clear hr hk
    have e1 := fun W => eqlAdj W 0 0 0 0
    have e2 := fun W => neqAdj W 0 0 0 0
    go_wp2_with fail
    refine (iHelloAt HR.out HK.out (I1.alloc _)).mono ?_
    rintro e w2 ⟨rfl, hb2⟩
    have bA2 := (box_new w1 #[.int .i64 s, .int .i64 a] 25).below hb2 (by simp)
    have I2 := (I1.alloc (.cells #[.int .i64 s, .int .i64 a] 25)).below hb2 (Nat.le_refl _)
    have W2 := below_call (below_alloc hb1 (Nat.le_refl _) (.cells #[.int .i64 s, .int .i64 a] 25)) (Nat.le_refl _) hb2
    have HB2 := Lib.hid bA2
    obtain ⟨c0, c1, f0, f1, l0⟩ := box2 bA2
    clear bA2
    go_wp2_with fail
    refine (sHelloAt HR.out HK.out (I2.alloc _)).mono ?_
    rintro e w3 ⟨rfl, hb3⟩
    have bA3 := (HB2.out.alloc (.cells #[.int .i64 0, .int .i64 0] 25)).below hb3 (by simp; omega)
    have bO3 := (box_new w2 #[.int .i64 0, .int .i64 0] 25).below hb3 (by simp)
    have I3 := (I2.alloc (.cells #[.int .i64 0, .int .i64 0] 25)).below hb3 (Nat.le_refl _)
    have W3 := below_call (below_alloc W2 (Nat.le_refl _) (.cells #[.int .i64 0, .int .i64 0] 25)) (Nat.le_refl _) hb3
    clear c0 c1 f0 f1 l0 hb2 hb3 W2
    obtain ⟨c0, c1, f0, f1, l0⟩ := box2 bA3
    obtain ⟨d0, d1, g0, g1, l1⟩ := box2 bO3
    have HA3 := Lib.hid bA3
    have HO3 := Lib.hid bO3
    clear bA3 bO3
    go_wp2_with fail
    go_ret
    exact ⟨rfl, (by with_reducible (repeat (first | (refine below_drewN ?_ _) | (refine Below.drew ?_) | (refine below_alloc ?_ (by first | omega | (simp; done) | (simp; omega)) _) | (refine Below.setCell ?_ (by first | omega | (simp; done) | (simp; omega)) _) | exact Below.refl _ _ | assumption | (refine below_call ?_ (by first | omega | (simp; done) | (simp; omega)) (by assumption)))))⟩
  · have HR := Lib.hid hr; have HK := Lib.hid hk
    clear hr hk
    have HH := Lib.hid hh
    have e1 := fun W => eqlAdj W 1 0 1 0
    have e2 := fun W => neqAdj W 1 0 1 0
    go_wp2_with fail
    refine (iHelloAt HR.out HK.out (I1.alloc _)).mono ?_
    rintro e w2 ⟨rfl, hb2⟩
    have bA2 := (box_new w1 #[.int .i64 s, .int .i64 a] 25).below hb2 (by simp)
    have I2 := (I1.alloc (.cells #[.int .i64 s, .int .i64 a] 25)).below hb2 (Nat.le_refl _)
    have W2 := below_call (below_alloc hb1 (Nat.le_refl _) (.cells #[.int .i64 s, .int .i64 a] 25)) (Nat.le_refl _) hb2
    have HB2 := Lib.hid bA2
    obtain ⟨c0, c1, f0, f1, l0⟩ := box2 bA2
    clear bA2
    go_wp2_with fail
    refine (sHelloAt HR.out HK.out (I2.alloc _)).mono ?_
    rintro e w3 ⟨rfl, hb3⟩
    have bA3 := (HB2.out.alloc (.cells #[.int .i64 1, .int .i64 0] 25)).below hb3 (by simp; omega)
    have bO3 := (box_new w2 #[.int .i64 1, .int .i64 0] 25).below hb3 (by simp)
    have I3 := (I2.alloc (.cells #[.int .i64 1, .int .i64 0] 25)).below hb3 (Nat.le_refl _)
    have W3 := below_call (below_alloc W2 (Nat.le_refl _) (.cells #[.int .i64 1, .int .i64 0] 25)) (Nat.le_refl _) hb3
    clear c0 c1 f0 f1 l0 hb2 hb3 W2
    obtain ⟨c0, c1, f0, f1, l0⟩ := box2 bA3
    obtain ⟨d0, d1, g0, g1, l1⟩ := box2 bO3
    have HA3 := Lib.hid bA3
    have HO3 := Lib.hid bO3
    clear bA3 bO3
    have bX := box_new (w3.alloc (.cells #[.int .i64 1, .int .i64 0] 25)) #[.int .i64 1, .int .i64 0] 25
    rw [World.size_alloc] at bX
    have bO := (HO3.out.alloc (.cells #[.int .i64 1, .int .i64 0] 25)).alloc (.cells #[.int .i64 1, .int .i64 0] 25)
    have WX := below_alloc (below_alloc W3 (Nat.le_refl _) (.cells #[.int .i64 1, .int .i64 0] 25)) (Nat.le_refl _) (.cells #[.int .i64 1, .int .i64 0] 25)
    have hO3 := HO3.out.lt
    have hwx : w.heap.size ≤ w3.heap.size := W3.size
    go_wp2_with fail
    clear c0 c1 f0 f1 l0 d0 d1 g0 g1 l1
    go_loopw [11] (fun i wr => ∃ k : Nat, k ≤ 3 ∧ i = .int .i64 k ∧ Box wr (w3.heap.size + 1) #[.int .i64 1, .int .i64 k] 25 ∧ Box wr w2.heap.size #[.int .i64 1, .int .i64 0] 25 ∧ Below w.heap.size w wr)
      (fun i _ => 3 - (intOf i).toNat)
    case atStart => exact ⟨0, by omega, rfl, bX, bO, WX⟩
    case round =>
      obtain ⟨k, hk, rfl, b4, o4, W4⟩ := hrel
      clear bX bO WX
      obtain ⟨c0, c1, f0, f1, l0⟩ := box2 b4
      obtain ⟨d0, d1, g0, g1, l1⟩ := box2 o4
      have l2 : w3.heap.size < wr.heap.size := by omega
      have l3 : w3.heap.size < wr.heap.size + 1 := by omega
      have l4 : w3.heap.size + 1 < wr.heap.size + 1 := by omega
      have l5 : w3.heap.size + 1 < wr.heap.size + 1 + 1 := by omega
      have l6 : w2.heap.size < wr.heap.size + 1 := by omega
      have l7 : w2.heap.size < wr.heap.size + 1 + 1 := by omega
      by_cases hk3 : k < 3
      · have ht : Hid (tickOf 1 (k:Int) = (1, (k:Int) + 1)) := by
          show _ = _
          have : k = 0 ∨ k = 1 ∨ k = 2 := by omega
          rcases this with rfl | rfl | rfl <;> rfl
        go_wp2_with (go_at_call 18; refine (iTick 1 (k:Int) 1 ((k:Int) + 1) ht.out _).mono ?_; rintro e w' ⟨rfl, rfl⟩; unfold tickW)
        go_roundw
        case rel =>
          refine ⟨k + 1, by omega, by go_num, ?_, ?_, ?_⟩
          · have := ((((b4.set (o := 0) (.int .i64 1)).set (o := 1) (.int .i64 ((k:Int) + 1))).alloc (.cells #[.int .i64 1, .int .i64 (k:Int)] 25)).alloc (.cells #[.int .i64 1, .int .i64 ((k:Int) + 1)] 25)).alloc (.cells #[.int .i64 1, .int .i64 (k:Int)] 25)
            simpa using this
          · have := ((((o4.setOther (a := ⟨w3.heap.size + 1, 0, none⟩) (by simp; omega) (.int .i64 1)).setOther (a := ⟨w3.heap.size + 1, 1, none⟩) (by simp; omega) (.int .i64 ((k:Int) + 1))).alloc (.cells #[.int .i64 1, .int .i64 (k:Int)] 25)).alloc (.cells #[.int .i64 1, .int .i64 ((k:Int) + 1)] 25)).alloc (.cells #[.int .i64 1, .int .i64 (k:Int)] 25)
            exact this
          · exact (by with_reducible (repeat (first | (refine below_drewN ?_ _) | (refine Below.drew ?_) | (refine below_alloc ?_ (by first | omega | (simp; done) | (simp; omega)) _) | (refine Below.setCell ?_ (by first | omega | (simp; done) | (simp; omega)) _) | exact Below.refl _ _ | assumption | (refine below_call ?_ (by first | omega | (simp; done) | (simp; omega)) (by assumption)))))
        case measure => simp [intOf]; omega
      · obtain rfl : k = 3 := by omega
        have ht : Hid (tickOf 1 ((3:Nat):Int) = (0, 0)) := rfl
        have e3 := fun W => eqlAdj W 0 0 0 0
        go_wp2_with (go_at_call 18; refine (iTick 1 _ 0 0 ht.out _).mono ?_; rintro e w' ⟨rfl, rfl⟩; unfold tickW)
        go_ret
        exact ⟨rfl, (by with_reducible (repeat (first | (refine below_drewN ?_ _) | (refine Below.drew ?_) | (refine below_alloc ?_ (by first | omega | (simp; done) | (simp; omega)) _) | (refine Below.setCell ?_ (by first | omega | (simp; done) | (simp; omega)) _) | exact Below.refl _ _ | assumption | (refine below_call ?_ (by first | omega | (simp; done) | (simp; omega)) (by assumption)))))⟩
  · have HR := Lib.hid hr; have HK := Lib.hid hk
    clear hr hk
    have HH := Lib.hid hh
    have e1 := fun W => eqlAdj W 3 0 3 0
    have e2 := fun W => neqAdj W 3 0 3 0
    go_wp2_with fail
    refine (iHelloAt HR.out HK.out (I1.alloc _)).mono ?_
    rintro e w2 ⟨rfl, hb2⟩
    have bA2 := (box_new w1 #[.int .i64 3, .int .i64 a] 25).below hb2 (by simp)
    have I2 := (I1.alloc (.cells #[.int .i64 3, .int .i64 a] 25)).below hb2 (Nat.le_refl _)
    have W2 := below_call (below_alloc hb1 (Nat.le_refl _) (.cells #[.int .i64 3, .int .i64 a] 25)) (Nat.le_refl _) hb2
    have HB2 := Lib.hid bA2
    obtain ⟨c0, c1, f0, f1, l0⟩ := box2 bA2
    clear bA2
    go_wp2_with fail
    refine (sHelloAt HR.out HK.out (I2.alloc _)).mono ?_
    rintro e w3 ⟨rfl, hb3⟩
    have bA3 := (HB2.out.alloc (.cells #[.int .i64 3, .int .i64 0] 25)).below hb3 (by simp; omega)
    have bO3 := (box_new w2 #[.int .i64 3, .int .i64 0] 25).below hb3 (by simp)
    have I3 := (I2.alloc (.cells #[.int .i64 3, .int .i64 0] 25)).below hb3 (Nat.le_refl _)
    have W3 := below_call (below_alloc W2 (Nat.le_refl _) (.cells #[.int .i64 3, .int .i64 0] 25)) (Nat.le_refl _) hb3
    clear c0 c1 f0 f1 l0 hb2 hb3 W2
    obtain ⟨c0, c1, f0, f1, l0⟩ := box2 bA3
    obtain ⟨d0, d1, g0, g1, l1⟩ := box2 bO3
    have HA3 := Lib.hid bA3
    have HO3 := Lib.hid bO3
    clear bA3 bO3
    have bX := box_new (w3.alloc (.cells #[.int .i64 3, .int .i64 0] 25)) #[.int .i64 3, .int .i64 0] 25
    rw [World.size_alloc] at bX
    have bO := (HO3.out.alloc (.cells #[.int .i64 3, .int .i64 0] 25)).alloc (.cells #[.int .i64 3, .int .i64 0] 25)
    have WX := below_alloc (below_alloc W3 (Nat.le_refl _) (.cells #[.int .i64 3, .int .i64 0] 25)) (Nat.le_refl _) (.cells #[.int .i64 3, .int .i64 0] 25)
    have hO3 := HO3.out.lt
    have hwx : w.heap.size ≤ w3.heap.size := W3.size
    go_wp2_with fail
    clear c0 c1 f0 f1 l0 d0 d1 g0 g1 l1
    go_loopw [11] (fun i wr => ∃ k : Nat, k ≤ 3 ∧ i = .int .i64 k ∧ Box wr (w3.heap.size + 1) #[.int .i64 3, .int .i64 k] 25 ∧ Box wr w2.heap.size #[.int .i64 3, .int .i64 0] 25 ∧ Below w.heap.size w wr)
      (fun i _ => 3 - (intOf i).toNat)
    case atStart => exact ⟨0, by omega, rfl, bX, bO, WX⟩
    case round =>
      obtain ⟨k, hk, rfl, b4, o4, W4⟩ := hrel
      clear bX bO WX
      obtain ⟨c0, c1, f0, f1, l0⟩ := box2 b4
      obtain ⟨d0, d1, g0, g1, l1⟩ := box2 o4
      have l2 : w3.heap.size < wr.heap.size := by omega
      have l3 : w3.heap.size < wr.heap.size + 1 := by omega
      have l4 : w3.heap.size + 1 < wr.heap.size + 1 := by omega
      have l5 : w3.heap.size + 1 < wr.heap.size + 1 + 1 := by omega
      have l6 : w2.heap.size < wr.heap.size + 1 := by omega
      have l7 : w2.heap.size < wr.heap.size + 1 + 1 := by omega
      by_cases hk3 : k < 3
      · have ht : Hid (tickOf 3 (k:Int) = (3, (k:Int) + 1)) := by
          show _ = _
          have : k = 0 ∨ k = 1 ∨ k = 2 := by omega
          rcases this with rfl | rfl | rfl <;> rfl
        go_wp2_with (go_at_call 18; refine (iTick 3 (k:Int) 3 ((k:Int) + 1) ht.out _).mono ?_; rintro e w' ⟨rfl, rfl⟩; unfold tickW)
        go_roundw
        case rel =>
          refine ⟨k + 1, by omega, by go_num, ?_, ?_, ?_⟩
          · have := ((((b4.set (o := 0) (.int .i64 3)).set (o := 1) (.int .i64 ((k:Int) + 1))).alloc (.cells #[.int .i64 3, .int .i64 (k:Int)] 25)).alloc (.cells #[.int .i64 3, .int .i64 ((k:Int) + 1)] 25)).alloc (.cells #[.int .i64 3, .int .i64 (k:Int)] 25)
            simpa using this
          · have := ((((o4.setOther (a := ⟨w3.heap.size + 1, 0, none⟩) (by simp; omega) (.int .i64 3)).setOther (a := ⟨w3.heap.size + 1, 1, none⟩) (by simp; omega) (.int .i64 ((k:Int) + 1))).alloc (.cells #[.int .i64 3, .int .i64 (k:Int)] 25)).alloc (.cells #[.int .i64 3, .int .i64 ((k:Int) + 1)] 25)).alloc (.cells #[.int .i64 3, .int .i64 (k:Int)] 25)
            exact this
          · exact (by with_reducible (repeat (first | (refine below_drewN ?_ _) | (refine Below.drew ?_) | (refine below_alloc ?_ (by first | omega | (simp; done) | (simp; omega)) _) | (refine Below.setCell ?_ (by first | omega | (simp; done) | (simp; omega)) _) | exact Below.refl _ _ | assumption | (refine below_call ?_ (by first | omega | (simp; done) | (simp; omega)) (by assumption)))))
        case measure => simp [intOf]; omega
      · obtain rfl : k = 3 := by omega
        have ht : Hid (tickOf 3 ((3:Nat):Int) = (0, 0)) := rfl
        have e3 := fun W => eqlAdj W 0 0 0 0
        go_wp2_with (go_at_call 18; refine (iTick 3 _ 0 0 ht.out _).mono ?_; rintro e w' ⟨rfl, rfl⟩; unfold tickW)
        go_ret
        exact ⟨rfl, (by with_reducible (repeat (first | (refine below_drewN ?_ _) | (refine Below.drew ?_) | (refine below_alloc ?_ (by first | omega | (simp; done) | (simp; omega)) _) | (refine Below.setCell ?_ (by first | omega | (simp; done) | (simp; omega)) _) | exact Below.refl _ _ | assumption | (refine below_call ?_ (by first | omega | (simp; done) | (simp; omega)) (by assumption)))))⟩
  · have HR := Lib.hid hr; have HK := Lib.hid hk
    clear hr hk
    have HH := Lib.hid hh
    have hs3 : (s == 3) = false := by simp; omega
    have hs3n : (s != 3) = true := by simp; omega
    have hs4 : decide (s ≤ 2) = true := by simp; omega
    have e1 := fun W => eqlAdj W 2 0 2 0
    have e2 := fun W => neqAdj W 2 0 2 0
    go_wp2_with fail
    refine (iHelloAt HR.out HK.out (I1.alloc _)).mono ?_
    rintro e w2 ⟨rfl, hb2⟩
    have bA2 := (box_new w1 #[.int .i64 s, .int .i64 a] 25).below hb2 (by simp)
    have I2 := (I1.alloc (.cells #[.int .i64 s, .int .i64 a] 25)).below hb2 (Nat.le_refl _)
    have W2 := below_call (below_alloc hb1 (Nat.le_refl _) (.cells #[.int .i64 s, .int .i64 a] 25)) (Nat.le_refl _) hb2
    have HB2 := Lib.hid bA2
    obtain ⟨c0, c1, f0, f1, l0⟩ := box2 bA2
    clear bA2
    go_wp2_with fail
    refine (sHelloAt HR.out HK.out (I2.alloc _)).mono ?_
    rintro e w3 ⟨rfl, hb3⟩
    have bA3 := (HB2.out.alloc (.cells #[.int .i64 2, .int .i64 0] 25)).below hb3 (by simp; omega)
    have bO3 := (box_new w2 #[.int .i64 2, .int .i64 0] 25).below hb3 (by simp)
    have I3 := (I2.alloc (.cells #[.int .i64 2, .int .i64 0] 25)).below hb3 (Nat.le_refl _)
    have W3 := below_call (below_alloc W2 (Nat.le_refl _) (.cells #[.int .i64 2, .int .i64 0] 25)) (Nat.le_refl _) hb3
    clear c0 c1 f0 f1 l0 hb2 hb3 W2
    obtain ⟨c0, c1, f0, f1, l0⟩ := box2 bA3
    obtain ⟨d0, d1, g0, g1, l1⟩ := box2 bO3
    have HA3 := Lib.hid bA3
    have HO3 := Lib.hid bO3
    clear bA3 bO3
    have bX := box_new (w3.alloc (.cells #[.int .i64 2, .int .i64 0] 25)) #[.int .i64 2, .int .i64 0] 25
    rw [World.size_alloc] at bX
    have bO := (HO3.out.alloc (.cells #[.int .i64 2, .int .i64 0] 25)).alloc (.cells #[.int .i64 2, .int .i64 0] 25)
    have WX := below_alloc (below_alloc W3 (Nat.le_refl _) (.cells #[.int .i64 2, .int .i64 0] 25)) (Nat.le_refl _) (.cells #[.int .i64 2, .int .i64 0] 25)
    have hO3 := HO3.out.lt
    have hwx : w.heap.size ≤ w3.heap.size := W3.size
    go_wp2_with fail
    clear c0 c1 f0 f1 l0 d0 d1 g0 g1 l1
    go_loopw [11] (fun i wr => ∃ k : Nat, k ≤ 3 ∧ i = .int .i64 k ∧ Box wr (w3.heap.size + 1) #[.int .i64 2, .int .i64 k] 25 ∧ Box wr w2.heap.size #[.int .i64 2, .int .i64 0] 25 ∧ Below w.heap.size w wr)
      (fun i _ => 3 - (intOf i).toNat)
    case atStart => exact ⟨0, by omega, rfl, bX, bO, WX⟩
    case round =>
      obtain ⟨k, hk, rfl, b4, o4, W4⟩ := hrel
      clear bX bO WX
      obtain ⟨c0, c1, f0, f1, l0⟩ := box2 b4
      obtain ⟨d0, d1, g0, g1, l1⟩ := box2 o4
      have l2 : w3.heap.size < wr.heap.size := by omega
      have l3 : w3.heap.size < wr.heap.size + 1 := by omega
      have l4 : w3.heap.size + 1 < wr.heap.size + 1 := by omega
      have l5 : w3.heap.size + 1 < wr.heap.size + 1 + 1 := by omega
      have l6 : w2.heap.size < wr.heap.size + 1 := by omega
      have l7 : w2.heap.size < wr.heap.size + 1 + 1 := by omega
      by_cases hk3 : k < 3
      · have ht : Hid (tickOf 2 (k:Int) = (2, (k:Int) + 1)) := by
          show _ = _
          have : k = 0 ∨ k = 1 ∨ k = 2 := by omega
          rcases this with rfl | rfl | rfl <;> rfl
        go_wp2_with (go_at_call 18; refine (iTick 2 (k:Int) 2 ((k:Int) + 1) ht.out _).mono ?_; rintro e w' ⟨rfl, rfl⟩; unfold tickW)
        go_roundw
        case rel =>
          refine ⟨k + 1, by omega, by go_num, ?_, ?_, ?_⟩
          · have := ((((b4.set (o := 0) (.int .i64 2)).set (o := 1) (.int .i64 ((k:Int) + 1))).alloc (.cells #[.int .i64 2, .int .i64 (k:Int)] 25)).alloc (.cells #[.int .i64 2, .int .i64 ((k:Int) + 1)] 25)).alloc (.cells #[.int .i64 2, .int .i64 (k:Int)] 25)
            simpa using this
          · have := ((((o4.setOther (a := ⟨w3.heap.size + 1, 0, none⟩) (by simp; omega) (.int .i64 2)).setOther (a := ⟨w3.heap.size + 1, 1, none⟩) (by simp; omega) (.int .i64 ((k:Int) + 1))).alloc (.cells #[.int .i64 2, .int .i64 (k:Int)] 25)).alloc (.cells #[.int .i64 2, .int .i64 ((k:Int) + 1)] 25)).alloc (.cells #[.int .i64 2, .int .i64 (k:Int)] 25)
            exact this
          · exact (by with_reducible (repeat (first | (refine below_drewN ?_ _) | (refine Below.drew ?_) | (refine below_alloc ?_ (by first | omega | (simp; done) | (simp; omega)) _) | (refine Below.setCell ?_ (by first | omega | (simp; done) | (simp; omega)) _) | exact Below.refl _ _ | assumption | (refine below_call ?_ (by first | omega | (simp; done) | (simp; omega)) (by assumption)))))
        case measure => simp [intOf]; omega
      · obtain rfl : k = 3 := by omega
        have ht : Hid (tickOf 2 ((3:Nat):Int) = (0, 0)) := rfl
        have e3 := fun W => eqlAdj W 0 0 0 0
        go_wp2_with (go_at_call 18; refine (iTick 2 _ 0 0 ht.out _).mono ?_; rintro e w' ⟨rfl, rfl⟩; unfold tickW)
        go_ret
        exact ⟨rfl, (by with_reducible (repeat (first | (refine below_drewN ?_ _) | (refine Below.drew ?_) | (refine below_alloc ?_ (by first | omega | (simp; done) | (simp; omega)) _) | (refine Below.setCell ?_ (by first | omega | (simp; done) | (simp; omega)) _) | exact Below.refl _ _ | assumption | (refine below_call ?_ (by first | omega | (simp; done) | (simp; omega)) (by assumption)))))⟩
theorem own : ownKnob Try.prog.godebug = none := by kernel_rfl
theorem laidOut : laidOutB Try.prog = true := by kernel_rfl
set_option maxRecDepth 100000 in
theorem lifted (os : Os) (started : os.Started) (H : Type) (enc : TypeId × Value → H) :
    ReturnsInHanded {} Try.checked os 10 .any (Rows.fnTickDeadSpec.pre6 enc Try.prog Try.f10 Rows.fnTickDeadRow.domain false) (Rows.fnTickDeadSpec.post enc Try.prog Try.f10 false true false false) := by
  refine returnsInHanded_of_change (C := Try.checked) own started (by kernel_rfl) Try.func10
    (ChangeSpec.witness6 (enc := enc) (C := Try.checked) false ⟨#[], #[.slice none 0 0], []⟩ 8 (by kernel_rfl) (by kernel_rfl) (by kernel_rfl) (by kernel_rfl)) ?_
  intro W base args ds gs before hval0 hW hcnd _
  have hval : ∀ (j : Nat) t v, Try.f10.params[j]? = some t → args[j]? = some v → Value.okWide Try.prog W .any base t v := hval0
  have hW' := hW
  obtain ⟨p, q, hA0, hV, rfl, hfz, hnd⟩ := hW
  have hA : DataW.TrodAll enc Try.prog W 0 (fun _ => true) true Try.f10.params.toList args.toList ds p := hA0
  rw [Try.params10] at hA hval
  obtain ⟨v0, vs0, d0, ds0, p0, q0, hargs, rfl, rfl, h0, r0⟩ := trodAll_cons hA
  obtain ⟨rfl, rfl, rfl⟩ := trodAll_nil r0
  obtain rfl : args = #[v0] := by cases args; simp_all
  obtain ⟨rfl, rfl⟩ := trodVars_none hV
  have k0 := h0
  have lt0 : ∀ x ∈ p0, x.block < W.heap.size := by obtain ⟨m, hm⟩ := k0; exact DataW.trod_lt m _ _ _ hm
  have w0 : CodeAt W v0 := codeAt_of_trod (T := 30) (E := 5) Try.underlying30 Try.underlying5 (by kernel_rfl) (hval 0 30 v0 rfl rfl) h0
  clear hA0 hval0
  refine (walk v0 W w0).mono fun e W' ⟨he, bel⟩ => ?_
  subst he
  exact ⟨_, rfl, _, _, _, [], _, [], hW', trodAll_mk1 (shut_bool Try.underlying4 _), (trodAll_cons_mk (Below.trod laidOut (by kernel_rfl) (of_decide_eq_true (by kernel_rfl)) k0 bel lt0) trodAll_mk0), rfl, bel.frame _, fun h => by cases h⟩
theorem over : Rows.fnTickDeadRow.holds Try.pinned (OpenSpec.ofChange Rows.fnTickDeadSpec) :=
  OpenClaim.holds_of_wide 10 Try.f10 rfl rfl rfl rfl rfl rfl rfl ⟨rfl, rfl, rfl, rfl, rfl⟩ rfl rfl rfl rfl rfl (by kernel_rfl) Try.func10 (by kernel_rfl)
    (of_decide_eq_true (by kernel_rfl)) (by unfold Func.isWrapper; first | (rw [if_pos (by decide +kernel)]; kernel_rfl) | (rw [if_neg (by decide +kernel)]; exact ⟨rfl, rfl⟩))
    (fun os started H enc _ => lifted os started H enc)
end Go.Proofs.Ytpcjhgglgjmomaa.lawFnTickDead
namespace Go.Proofs.Ytpcjhgglgjmomaa
/-- The statement. -/
theorem FnTickDead_proved : Rows.FnTickDeadSaid := lawFnTickDead.over
#print axioms FnTickDead_proved
end Go.Proofs.Ytpcjhgglgjmomaa
