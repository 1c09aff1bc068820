/- Marks on a graph's links and on an announcement's ends, read back; sameGraph, sameLsa at equal things. -/
import Derived.Test.YtnnkdoomjkccgaaGG
import Derived.Test.YtnnkdoomjkccgaaHeld
import Derived.Test.YtnnkdoomjkccgaaSame
namespace Go.Proofs.Ytnnkdoomjkccgaa
set_option linter.unusedSimpArgs false
set_option linter.unusedVariables false
open Go.RowKit

theorem markT_at {k : Int} {n i : Nat} (h : i < n) : (markT k n)[i]? = some (k + 3 * (i : Int), k + 3 * (i : Int) + 1, k + 3 * (i : Int) + 1 + 1) := by simp [markT, h]
theorem heldLinkS_any (n : Nat) (v : Value) (k : Int) (w : World) (h : TriplesAt w v (markT k n)) (hk : 0 ≤ k) (hk1 : k + 3 * n ≤ 1000000000000) : Calls Try.prog 47 #[v, .int .i64 k] w fun e w' => e = .returned (.int .i64 (k + 3 * n)) ∧ w = w' := by
  obtain ⟨a, cap, b, off, rfl, hcap, hmax, ha, hc⟩ := h
  unfold maxLen at hmax
  rw [markT_len] at hcap ha ⊢
  have HC := Lib.hid hc; clear hc
  have HA := Lib.hid ha; clear ha
  go_enter Try.func47, Try.ntmps47
  go_wp2_with fail
  go_loop [1, 5] (fun c i => ∃ j : Nat, j ≤ n ∧ i = .int .i64 j ∧ c = .int .i64 (k + 3 * j)) (fun _ i => n - (intOf i).toNat)
  case atStart => exact ⟨0, Nat.zero_le _, rfl, by simp⟩
  case round =>
    obtain ⟨j, hj, rfl, rfl⟩ := hrel
    by_cases hjn : j < n
    · have ha := HA.out (by omega)
      subst ha
      obtain ⟨c0, c1, c2⟩ := HC.out j _ _ _ (markT_at hjn)
      have hjI : (j : Int) < (n : Int) := by omega
      have hne : (k + 3 * (j:Int) != k + 3 * (j:Int)) = false := by simp
      have hne2 : (k + 3 * (j:Int) + 1 != k + 3 * (j:Int) + 1) = false := by simp
      have hne3 : (k + 3 * (j:Int) + 1 + 1 != k + 3 * (j:Int) + 1 + 1) = false := by simp
      go_wp2_with fail
      go_round
      case rel =>
        refine ⟨j + 1, by omega, by go_num, ?_⟩
        first | rfl | (congr 1; push_cast; omega) | go_num
      case measure => simp [intOf]; omega
    · obtain rfl : j = n := by omega
      go_wp2_with fail
      go_ret
      exact ⟨rfl, rfl⟩
theorem heldGraph_any (n : Nat) (x : Int) (v : Value) (k : Int) (w : World) (h : TriplesAt w v (markT k n)) (hk : 0 ≤ k) (hk1 : k + 3 * n ≤ 1000000000000) : Calls Try.prog 17 #[.agg #[.int .i64 x, v], .int .i64 k] w fun e w' => e = .returned (.int .i64 (k + 3 * n)) ∧ Below w.heap.size w w' := by
  have H := Lib.hid h
  obtain ⟨a, m, c, rfl⟩ := h.form
  have hd : decide (k + 3 * (n:Int) < 0) = false := decide_eq_false (by omega)
  clear h
  go_enter Try.func17, Try.ntmps17
  go_wp2_with fail
  refine (heldLinkS_any n _ k _ (H.out.below (by with_reducible (repeat (first | (refine below_drewN ?_ _) | (refine Below.drew ?_) | (refine below_alloc ?_ (by first | omega | (simp; done) | (simp; omega)) _) | (refine Below.setCell ?_ (by first | omega | (simp; done) | (simp; omega)) _) | exact Below.refl _ _ | assumption | (refine below_call ?_ (by first | omega | (simp; done) | (simp; omega)) (by assumption))))) (Nat.le_refl _)) hk hk1).mono ?_
  rintro e w' ⟨rfl, rfl⟩
  go_wp2_with fail
  go_ret
  exact ⟨rfl, (by with_reducible (repeat (first | (refine below_drewN ?_ _) | (refine Below.drew ?_) | (refine below_alloc ?_ (by first | omega | (simp; done) | (simp; omega)) _) | (refine Below.setCell ?_ (by first | omega | (simp; done) | (simp; omega)) _) | exact Below.refl _ _ | assumption | (refine below_call ?_ (by first | omega | (simp; done) | (simp; omega)) (by assumption)))))⟩
theorem markGraph_read (lo hi : Nat) (x : Int) (v : Value) (n : Nat) (xs : List Value) (k : Int) (w : World) (h : OwnR w lo hi 46 3 v n xs) (hk : 0 ≤ k) (hk1 : k + 3 * n ≤ 1000000000000) : Calls Try.prog 16 #[.agg #[.int .i64 x, v], .int .i64 k] w fun e w' => e = .returned (.int .i64 (k + 3 * n)) ∧ TriplesAt w' v (markT k n) ∧ Btw lo hi w w' := by
  obtain ⟨a, c, rfl⟩ := own_slice h.1
  have H := Lib.hid (h.alloc (.cells #[.int .i64 x, .slice a n c] 26))
  have HL := Lib.hid h.lt
  clear h
  go_enter Try.func16, Try.ntmps16
  go_wp2_with fail
  refine (markLinkS_any lo hi _ n xs k _ H.out hk hk1).mono ?_
  rintro e w1 ⟨rfl, hO, hg⟩
  have hb : Btw lo hi w w1 := (Btw.of_below ((Below.refl _ w).alloc (Nat.le_refl _) _)).trans (Btw.grown hg fun g hg' => by have := HL.out g hg'; omega)
  have HB := Lib.hid hb
  have HT := Lib.hid (own_triples (es := markT k n) (by rw [markT_len]; exact hO))
  clear hO hg hb
  go_wp2_with fail
  go_ret
  exact ⟨rfl, HT.out, HB.out⟩
theorem heldLsa_any (n : Nat) (o s : Int) (v : Value) (k : Int) (w : World) (h : PairsAt w v (markE k n)) (hk : 0 ≤ k) (hk1 : k + 2 * n ≤ 1000000000000) : Calls Try.prog 32 #[.agg #[.int .i64 o, .int .i64 s, v], .int .i64 k] w fun e w' => e = .returned (.int .i64 (k + 2 * n)) ∧ Below w.heap.size w w' := by
  have H := Lib.hid h
  obtain ⟨a, m, c, rfl⟩ := h.form
  have hd : decide (k + 2 * (n:Int) < 0) = false := decide_eq_false (by omega)
  clear h
  go_enter Try.func32, Try.ntmps32
  go_wp2_with fail
  refine (heldEndS_any n _ k _ (H.out.below (by with_reducible (repeat (first | (refine below_drewN ?_ _) | (refine Below.drew ?_) | (refine below_alloc ?_ (by first | omega | (simp; done) | (simp; omega)) _) | (refine Below.setCell ?_ (by first | omega | (simp; done) | (simp; omega)) _) | exact Below.refl _ _ | assumption | (refine below_call ?_ (by first | omega | (simp; done) | (simp; omega)) (by assumption))))) (Nat.le_refl _)) hk hk1).mono ?_
  rintro e w' ⟨rfl, rfl⟩
  go_wp2_with fail
  go_ret
  exact ⟨rfl, (by with_reducible (repeat (first | (refine below_drewN ?_ _) | (refine Below.drew ?_) | (refine below_alloc ?_ (by first | omega | (simp; done) | (simp; omega)) _) | (refine Below.setCell ?_ (by first | omega | (simp; done) | (simp; omega)) _) | exact Below.refl _ _ | assumption | (refine below_call ?_ (by first | omega | (simp; done) | (simp; omega)) (by assumption)))))⟩
theorem markLsa_read (lo hi : Nat) (o s : Int) (v : Value) (n : Nat) (xs : List Value) (k : Int) (w : World) (h : OwnR w lo hi 43 2 v n xs) (hk : 0 ≤ k) (hk1 : k + 2 * n ≤ 1000000000000) : Calls Try.prog 31 #[.agg #[.int .i64 o, .int .i64 s, v], .int .i64 k] w fun e w' => e = .returned (.int .i64 (k + 2 * n)) ∧ PairsAt w' v (markE k n) ∧ Btw lo hi w w' := by
  obtain ⟨a, c, rfl⟩ := own_slice h.1
  have H := Lib.hid (h.alloc (.cells #[.int .i64 o, .int .i64 s, .slice a n c] 41))
  have HL := Lib.hid h.lt
  clear h
  go_enter Try.func31, Try.ntmps31
  go_wp2_with fail
  refine (markEndS_any lo hi _ n xs k _ H.out hk hk1).mono ?_
  rintro e w1 ⟨rfl, hO, hg⟩
  have hb : Btw lo hi w w1 := (Btw.of_below ((Below.refl _ w).alloc (Nat.le_refl _) _)).trans (Btw.grown hg fun g hg' => by have := HL.out g hg'; omega)
  have HB := Lib.hid hb
  have HT := Lib.hid (own_pairs (es := markE k n) (by rw [markE_len]; exact hO))
  clear hO hg hb
  go_wp2_with fail
  go_ret
  exact ⟨rfl, HT.out, HB.out⟩
theorem neqLink (W : World) (x y z : Int) : (binOp .neq 46 (.agg #[.int .i64 x, .int .i64 y, .int .i64 z]) (.agg #[.int .i64 x, .int .i64 y, .int .i64 z])).run Try.prog W = .ok (.bool false) W := by
  have u3 := Try.underlying3
  have a3 := Try.isAgg3
  have z3 := Try.sizeOf3
  have hS : Try.prog.underlying 46 = some (.struct (Try.prog.fieldsOf 46)) := by kernel_rfl
  have hp : Try.prog.stoodInHeld 46 = false := by kernel_rfl
  rw [run_neq_struct, show (10000 : Nat) = 9999 + 1 from rfl, run_equalIn_agg W 9999 46 _ _ hS hp]
  simp only [Program.fieldsOf, Try.underlying46]
  go_simp
set_option maxHeartbeats 1000000 in
theorem sameGraph_self (n : Int) (ls : List LinkD) (v u : Value) (w : World) (hv : TriplesAt w v ls) (hu : TriplesAt w u ls) :
    Calls Try.prog 19 #[.agg #[.int .i64 n, v], .agg #[.int .i64 n, u]] w fun e w' => e = .returned (.bool true) ∧ Below w.heap.size w w' := by
  obtain ⟨a, cap, b, off, rfl, hcap, hmax, ha, hc⟩ := hv
  obtain ⟨a2, cap2, b2, off2, rfl, hcap2, hmax2, ha2, hc2⟩ := hu
  unfold maxLen at hmax hmax2
  obtain ⟨m, hm⟩ : ∃ m, m = ls.length := ⟨_, rfl⟩
  rw [← hm] at hcap ha hcap2 ha2 ⊢
  have HM := Lib.hid hm
  have HC := Lib.hid hc; have HA := Lib.hid ha; have HC2 := Lib.hid hc2; have HA2 := Lib.hid ha2
  clear hm hc ha hc2 ha2
  have hlb : ((m:Int) != (m:Int)) = false := by simp
  have hnb : (n != n) = false := by simp
  go_enter Try.func19, Try.ntmps19
  go_wp2_with fail
  have hB0 : Box ((w.alloc (.cells #[.int .i64 n, .slice a m cap] 26)).alloc (.cells #[.int .i64 n, .slice a2 m cap2] 26)) w.heap.size #[.int .i64 n, .slice a m cap] 26 := (box_new _ _ _).alloc _
  have hB1 : Box ((w.alloc (.cells #[.int .i64 n, .slice a m cap] 26)).alloc (.cells #[.int .i64 n, .slice a2 m cap2] 26)) (w.heap.size + 1) #[.int .i64 n, .slice a2 m cap2] 26 := box_at _ _ _ (by simp)
  have HB0 := Lib.hid hB0; have HB1 := Lib.hid hB1
  have HBW : Hid (Below w.heap.size w ((w.alloc (.cells #[.int .i64 n, .slice a m cap] 26)).alloc (.cells #[.int .i64 n, .slice a2 m cap2] 26))) := Lib.hid (by with_reducible (repeat (first | (refine below_drewN ?_ _) | (refine Below.drew ?_) | (refine below_alloc ?_ (by first | omega | (simp; done) | (simp; omega)) _) | (refine Below.setCell ?_ (by first | omega | (simp; done) | (simp; omega)) _) | exact Below.refl _ _ | assumption | (refine below_call ?_ (by first | omega | (simp; done) | (simp; omega)) (by assumption)))))
  clear hB0 hB1
  go_loopw [5] (fun i wr => ∃ k : Nat, k ≤ m ∧ i = .int .i64 k ∧ Box wr w.heap.size #[.int .i64 n, .slice a m cap] 26 ∧ Box wr (w.heap.size + 1) #[.int .i64 n, .slice a2 m cap2] 26 ∧ Below w.heap.size w wr) (fun i _ => m - (intOf i).toNat)
  case atStart => exact ⟨0, Nat.zero_le _, rfl, HB0.out, HB1.out, HBW.out⟩
  case round =>
    obtain ⟨k, hk, rfl, hA, hB, hW⟩ := hrel
    clear HB0 HB1 HBW
    have HA0 := Lib.hid hA; have HB0 := Lib.hid hB; have HW := Lib.hid hW
    obtain ⟨a0, a1, f0, f1, l0⟩ := box2 hA
    obtain ⟨b0, b1, g0, g1, l1⟩ := box2 hB
    clear hA hB hW
    by_cases hkm : k < m
    · obtain ⟨⟨x, y, z⟩, hx⟩ := at_lt HM.out hkm
      have ha := HA.out (by omega)
      have ha2 := HA2.out (by omega)
      subst ha ha2
      obtain ⟨d0, d1, d2⟩ := HC.out k x y z hx
      obtain ⟨e0, e1, e2⟩ := HC2.out k x y z hx
      have p0 := cell_below HW.out d0 (cell_lt d0)
      have p1 := cell_below HW.out d1 (cell_lt d0)
      have p2 := cell_below HW.out d2 (cell_lt d0)
      have q0 := cell_below HW.out e0 (cell_lt e0)
      have q1 := cell_below HW.out e1 (cell_lt e0)
      have q2 := cell_below HW.out e2 (cell_lt e0)
      have hkI : (k:Int) < (m:Int) := by omega
      have hne := fun W => neqLink W x y z
      clear hx d0 d1 d2 e0 e1 e2
      go_wp2_with fail
      go_quiet (fail)
      go_wp2_with fail
      go_roundw
      case rel => exact ⟨k + 1, by omega, by go_num, HA0.out.drewN _, HB0.out.drewN _, below_drewN HW.out _⟩
      case measure => simp [intOf]; omega
    · obtain rfl : k = m := by omega
      go_wp2_with fail
      go_ret
      exact ⟨rfl, HW.out⟩
theorem sameLsa_self {o s : Int} {es : List (Int × Int)} {v u : Value} {w : World} (hv : PairsAt w v es) (hu : PairsAt w u es) : Calls Try.prog 25 #[.agg #[.int .i64 o, .int .i64 s, v], .agg #[.int .i64 o, .int .i64 s, u]] w fun e w' => e = .returned (.bool true) ∧ Below w.heap.size w w' := by
  have h := sameLsa_any o s o s es es v u w hv hu
  rw [show eqB (o, s, es) (o, s, es) = true by simp [eqB]] at h
  exact h
end Go.Proofs.Ytnnkdoomjkccgaa
