/- distances of the program: the list distL, in new memory. -/
import Derived.Test.YtoebefpmfgkpoaaLk
import Derived.Test.YtoebefpmfgkpoaaRep
import Derived.Test.YtoebefpmfgkpoaaOwn2
import Derived.Test.YtoebefpmfgkpoaaMakeI
namespace Go.Proofs.Ytoebefpmfgkpoaa
set_option linter.unusedSimpArgs false
set_option linter.unusedVariables false
open Go.RowKit

theorem row_at {w : World} {lo g n cap : Nat} {d : List Int} {x : Int} (h : w.ownsRow lo 3 1 (.slice (some ⟨g, 0, none⟩) n cap) n (d.map (Value.int .i64))) (hd : d.length = n) (hx : nd n x) : w.cell? ⟨g, x.toNat, none⟩ = some (.int .i64 (atD d x)) ∧ w.frozen? ⟨g, x.toNat, none⟩ = false := by
  obtain ⟨h1, h2⟩ := hx
  refine ⟨(h.cellAt x.toNat (by omega)).trans ?_, h.frozenAt _⟩
  rw [List.getElem?_map, List.getElem?_eq_getElem (by omega)]
  simp [atD, List.getD_eq_getElem?_getD, List.getElem?_eq_getElem (show x.toNat < d.length by omega)]
theorem row_set {w : World} {lo g n cap : Nat} {d : List Int} (h : w.ownsRow lo 3 1 (.slice (some ⟨g, 0, none⟩) n cap) n (d.map (Value.int .i64))) (k : Nat) (u : Int) : (w.setCell ⟨g, k, none⟩ (.int .i64 u)).ownsRow lo 3 1 (.slice (some ⟨g, 0, none⟩) n cap) n ((d.set k u).map (Value.int .i64)) := by
  rw [List.map_set]
  exact (h.stored k (.int .i64 u)).1
def startD (n : Int) (a : Int) : List Int := (List.replicate n.toNat (-1)).set a.toNat 0
/-- The distances behind r rounds and j links. -/
def midD (ls : List LinkD) (r j : Nat) (d : List Int) : List Int := (ls.take j).foldl relaxP (bfD ls r d)
theorem midD_succ {ls : List LinkD} {r j : Nat} {d : List Int} {l : LinkD} (h : ls[j]? = some l) : midD ls r (j + 1) d = relaxP (midD ls r j d) l := by
  obtain ⟨h1, h2⟩ := List.getElem?_eq_some_iff.1 h
  unfold midD
  rw [List.take_succ_eq_append_getElem h1, h2, List.foldl_append]; rfl
theorem midD_all (ls : List LinkD) (r : Nat) (d : List Int) : midD ls r ls.length d = midD ls (r + 1) 0 d := by
  unfold midD
  rw [List.take_length, bf_succ, List.take_zero]; rfl
theorem midD_bnd {n : Int} {ls : List LinkD} (h : GOk n ls) {a : Int} (ha : nd n.toNat a) {r j : Nat} (hr : r ≤ 8) (hj : j ≤ ls.length) : bndD n.toNat 6000 (midD ls r j (startD n a)) := by
  have h1 := bnd_bf h.fits.nds h.len r (start_bnd ha)
  have h2 := bnd_round (ls := ls.take j) h1 fun l hl => h.fits.nds l (List.mem_of_mem_take hl)
  refine ⟨h2.1, fun v hv => ?_⟩
  have := h2.2 v hv
  have hl := h.len
  rw [List.length_take] at this
  have e : midD ls r j (startD n a) = roundD (ls.take j) (bfD ls r ((List.replicate n.toNat (-1)).set a.toNat 0)) := rfl
  rw [e]
  have : Nat.min j ls.length ≤ 14 := Nat.le_trans (Nat.min_le_right _ _) hl
  omega
set_option maxRecDepth 100000 in
set_option maxHeartbeats 4000000 in
theorem iDist (n : Int) (ls : List LinkD) (from_ : Int) (v : Value) (w : World) (hv : TriplesAt w v ls) (h : GOk n ls) (hf : nd n.toNat from_) :
    Calls Try.prog 45 #[.agg #[.int .i64 n, v], .int .i64 from_] w (MadeInts w (distL n ls from_)) := by
  obtain ⟨a, cap, b, off, rfl, hcap, hmax, ha, hc⟩ := hv
  unfold maxLen at hmax
  have hn1 := h.n1
  have hn8 := h.n8
  have hf0 := h.nN.1 hf
  obtain ⟨N, rfl⟩ : ∃ N : Nat, n = N := ⟨n.toNat, by omega⟩
  obtain ⟨F, rfl⟩ : ∃ F : Nat, from_ = F := ⟨from_.toNat, by omega⟩
  obtain ⟨m, hm⟩ : ∃ m, m = ls.length := ⟨_, rfl⟩
  rw [← hm] at hcap ha ⊢
  have HM := Lib.hid hm; clear hm
  have HC := Lib.hid hc; clear hc
  have HA := Lib.hid ha; clear ha
  have HG := Lib.hid h; have HF := Lib.hid hf
  clear h hf
  go_enter Try.func45, Try.ntmps45
  go_wp2_with fail
  refine (repeat_any (-1) (w.heap.size + 1) N (by omega) (by omega) _ (by simp [go_sem])).mono ?_
  rintro e w1 ⟨rfl, hF, hb⟩
  have G := Lib.hid (Box.call (b := w.heap.size) (c := #[.int .i64 (N:Int), .slice a m cap]) (t := 25) hb (by with_reducible (repeat (first | (refine box_at _ _ _ ?_; first | rfl | (simp; done)) | apply Box.alloc | apply Box.drewN | apply Box.drew))))
  obtain ⟨G_0, G_1, G_2, G_3, G_4⟩ := box2 G.out
  have BW := Lib.hid (below_call (B := w.heap.size) (a := w) (by with_reducible (repeat (first | (refine below_drewN ?_ _) | (refine Below.drew ?_) | (refine below_alloc ?_ (by first | omega | (simp; done) | (simp; omega)) _) | (refine Below.setCell ?_ (by first | omega | (simp; done) | (simp; omega)) _) | exact Below.refl _ _ | assumption | (refine below_call ?_ (by first | omega | (simp; done) | (simp; omega)) (by assumption))))) (Nat.le_refl _) hb)
  rw [World.size_alloc, World.size_alloc] at hF ⊢
  have hO : w1.ownsRow w.heap.size 3 1 (.slice (some ⟨w.heap.size + 1 + 1, 0, none⟩) N N) N ((List.replicate N (-1 : Int)).map (Value.int .i64)) := by
    rw [List.map_replicate]
    exact Filled.owns (size := 1) (by simpa using hF) (by simp) (by omega) (by unfold maxLen; omega)
  have hgl : w.heap.size + 1 + 1 < w1.heap.size := hF.lt
  have hfN : nd N (F:Int) := by unfold nd; omega
  have hF0 := (row_at hO (by simp) hfN)
  rw [show ((F:Int)).toNat = F by omega] at hF0
  obtain ⟨k0, k1⟩ := hF0
  have hO2 := row_set hO F 0
  have hFN : (F:Int) < (N:Int) := by omega
  have HO2 := Lib.hid hO2
  have B2 : Hid (Below w.heap.size w (w1.setCell ⟨w.heap.size + 1 + 1, F, none⟩ (.int .i64 0))) := Lib.hid (by have hB := BW.out; exact (by with_reducible (repeat (first | (refine below_drewN ?_ _) | (refine Below.drew ?_) | (refine below_alloc ?_ (by first | omega | (simp; done) | (simp; omega)) _) | (refine Below.setCell ?_ (by first | omega | (simp; done) | (simp; omega)) _) | exact Below.refl _ _ | assumption | (refine below_call ?_ (by first | omega | (simp; done) | (simp; omega)) (by assumption))))))
  have G2 := Lib.hid (G.out.setOther (a := ⟨w.heap.size + 1 + 1, F, none⟩) (by simp; omega) (.int .i64 0))
  clear hF hO hb hO2
  go_wp2_with fail
  have hst : startD (N:Int) (F:Int) = (List.replicate N (-1 : Int)).set F 0 := rfl
  obtain ⟨g, hg⟩ : ∃ g, w.heap.size + 1 + 1 = g := ⟨_, rfl⟩
  rw [hg] at HO2 B2 G2 ⊢
  rw [← hst] at HO2
  obtain ⟨W2, hW2⟩ : ∃ W2, w1.setCell ⟨g, F, none⟩ (.int .i64 0) = W2 := ⟨_, rfl⟩
  rw [hW2] at HO2 B2 G2 ⊢
  have hgw : w.heap.size < g := by omega
  clear k0 k1 G_0 G_1 G_2 G_3 G_4 hst hW2
  go_loopw [17] (fun i wr => ∃ r : Nat, r ≤ N ∧ i = .int .i64 r ∧ wr.ownsRow w.heap.size 3 1 (.slice (some ⟨g, 0, none⟩) N N) N ((midD ls r 0 (startD (N:Int) (F:Int))).map (Value.int .i64)) ∧ Box wr w.heap.size #[.int .i64 (N:Int), .slice a m cap] 25 ∧ Below w.heap.size w wr) (fun i _ => N - (intOf i).toNat)
  case atStart => exact ⟨0, Nat.zero_le _, rfl, HO2.out, G2.out, B2.out⟩
  case round =>
    clear HO2 G2 B2
    obtain ⟨r, hr, rfl, hO, hG, hB⟩ := hrel
    have HO := Lib.hid hO; have HGB := Lib.hid hG; have HB := Lib.hid hB
    clear hO hB
    by_cases hrN : r < N
    · have hrI : (r:Int) < (N:Int) := by omega
      obtain ⟨G_0, G_1, G_2, G_3, G_4⟩ := box2 hG
      clear hG
      go_wp2_with fail
      --INNER
      go_loopw [22] (fun i wr => ∃ j : Nat, j ≤ m ∧ i = .int .i64 j ∧ wr.ownsRow w.heap.size 3 1 (.slice (some ⟨g, 0, none⟩) N N) N ((midD ls r j (startD (N:Int) (F:Int))).map (Value.int .i64)) ∧ Box wr w.heap.size #[.int .i64 (N:Int), .slice a m cap] 25 ∧ Below w.heap.size w wr) (fun i _ => m - (intOf i).toNat)
      case atStart => exact ⟨0, Nat.zero_le _, rfl, HO.out, HGB.out, HB.out⟩
      case round =>
        clear HO HGB HB G_0 G_1 G_2 G_3 G_4
        obtain ⟨j, hj, rfl, hO2, hG2, hB2⟩ := hrel
        have HO2 := Lib.hid hO2; have HGB2 := Lib.hid hG2; have HB2 := Lib.hid hB2
        clear hO2 hB2
        by_cases hjm : j < m
        · obtain ⟨⟨x, y, z⟩, hx⟩ := at_lt HM.out hjm
          have ha := HA.out (by omega)
          subst ha
          obtain ⟨d0, d1, d2⟩ := HC.out j x y z hx
          have hbd := cell_lt d0
          have e0 := cell_below HB2.out d0 hbd
          have e1 := cell_below HB2.out d1 hbd
          have e2 := cell_below HB2.out d2 hbd
          have hlk := HG.out.link j _ hx
          simp only at hlk
          obtain ⟨X, rfl⟩ : ∃ X : Nat, x = X := ⟨x.toNat, by omega⟩
          obtain ⟨Y, rfl⟩ : ∃ Y : Nat, y = Y := ⟨y.toNat, by omega⟩
          have hXN : nd N (X:Int) := by unfold nd; omega
          have hYN : nd N (Y:Int) := by unfold nd; omega
          have hbn := midD_bnd HG.out (a := (F:Int)) HF.out (r := r) (j := j) (by omega) (by have := HM.out; omega)
          rw [Int.toNat_natCast] at hbn
          obtain ⟨hl, hbv⟩ := hbn
          have hcX := row_at HO2.out hl hXN
          have hcY := row_at HO2.out hl hYN
          have hbX := hbv _ hXN
          have hbY := hbv _ hYN
          rw [Int.toNat_natCast] at hcX hcY
          obtain ⟨D, hD⟩ : ∃ D, midD ls r j (startD (N:Int) (F:Int)) = D := ⟨_, rfl⟩
          have HX := Lib.hid hx
          have HMS := Lib.hid (midD_succ (r := r) (d := startD (N:Int) (F:Int)) hx)
          rw [hD] at HO2 hl hcX hcY hbX hbY HMS
          obtain ⟨p, hp⟩ : ∃ p, atD D (X:Int) = p := ⟨_, rfl⟩
          obtain ⟨q, hq⟩ : ∃ q, atD D (Y:Int) = q := ⟨_, rfl⟩
          rw [hp] at hcX hbX
          rw [hq] at hcY hbY
          obtain ⟨cX, fX⟩ := hcX
          obtain ⟨cY, fY⟩ := hcY
          have HP := Lib.hid hp; have HQ := Lib.hid hq; have HL := Lib.hid hl; have HXN := Lib.hid hXN; have HYN := Lib.hid hYN
          have hjI : (j:Int) < (m:Int) := by omega
          have hgl : g < wr.heap.size := cell_lt cX
          have hgl2 : g < wr.heap.size + 1 := by omega
          have hgn : ¬ g = wr.heap.size := by omega
          have hgn2 : ¬ wr.heap.size = g := by omega
          have hXY : ¬ X = Y := by omega
          have hYX : ¬ Y = X := by omega
          have hX0 : (X:Int) < (N:Int) := by omega
          have hY0 : (Y:Int) < (N:Int) := by omega
          have w1 : IntKind.i64.wrap (p + z) = p + z := IntWalk.i64_in _ (by omega)
          have w2 : IntKind.i64.wrap (q + z) = q + z := IntWalk.i64_in _ (by omega)
          have w3 : IntKind.i64.wrap (p + z + z) = p + z + z := IntWalk.i64_in _ (by omega)
          have hz1 : 1 ≤ z := by omega
          clear hx d0 d1 d2 hlk hbv hbX hbY hD hp hq hl hXN hYN
          by_cases hp0 : 0 ≤ p
          · by_cases hq0 : q < 0
            · have t0 : decide (0 ≤ p) = true := by simpa using hp0
              have t1 : decide (q < 0) = true := by simpa using hq0
              have t3 : decide (0 ≤ p + z) = true := by simp; omega
              have t4 : decide (p < 0) = false := by simp; omega
              have t5 : decide (p + z + z < p) = false := by simp; omega
              go_wp2_with fail
              go_quiet (fail)
              go_wp2_with fail
              go_region
              go_wp2_with fail
              go_quiet (fail)
              go_wp2_with fail
              go_roundw
              case rel =>
                have hD := relax_up (a := (X:Int)) (b := (Y:Int)) (c := z) HL.out HXN.out HYN.out (by omega) (by omega) (by rw [HP.out]; omega) (by rw [HP.out, HQ.out]; omega)
                refine ⟨j + 1, by omega, by go_num, ?_, (by with_reducible (repeat (first | exact HGB2.out | apply Box.drewN | apply Box.drew | apply Box.alloc | (refine Box.setOther ?_ (by simp; omega) _)))), ?_⟩
                · rw [HMS.out, hD, HP.out, Int.toNat_natCast]
                  exact (by
                  (with_reducible (repeat (first | apply own_drewN | apply own_drew)))
                  refine row_set ?_ Y _
                  exact (by with_reducible (repeat (first | exact HO2.out | apply own_drewN | apply own_drew | apply World.ownsRow.alloc))))
                · have hB := HB2.out
                  have hg0 : w.heap.size ≤ g := by omega
                  exact (by with_reducible (repeat (first | (refine below_drewN ?_ _) | (refine Below.drew ?_) | (refine below_alloc ?_ (by first | omega | (simp; done) | (simp; omega)) _) | (refine Below.setCell ?_ (by first | omega | (simp; done) | (simp; omega)) _) | exact Below.refl _ _ | assumption | (refine below_call ?_ (by first | omega | (simp; done) | (simp; omega)) (by assumption)))))
              case measure => simp [intOf]; omega
            by_cases hpq : p + z < q
            · have t0 : decide (0 ≤ p) = true := by simpa using hp0
              have t1 : decide (q < 0) = false := by simp; omega
              have t2 : decide (p + z < q) = true := by simpa using hpq
              have t3 : decide (0 ≤ p + z) = true := by simp; omega
              have t4 : decide (p < 0) = false := by simp; omega
              have t5 : decide (p + z + z < p) = false := by simp; omega
              go_wp2_with fail
              go_quiet (fail)
              go_wp2_with fail
              go_region
              go_wp2_with fail
              go_quiet (fail)
              go_wp2_with fail
              go_roundw
              case rel =>
                have hD := relax_up (a := (X:Int)) (b := (Y:Int)) (c := z) HL.out HXN.out HYN.out (by omega) (by omega) (by rw [HP.out]; omega) (by rw [HP.out, HQ.out]; omega)
                refine ⟨j + 1, by omega, by go_num, ?_, (by with_reducible (repeat (first | exact HGB2.out | apply Box.drewN | apply Box.drew | apply Box.alloc | (refine Box.setOther ?_ (by simp; omega) _)))), ?_⟩
                · rw [HMS.out, hD, HP.out, Int.toNat_natCast]
                  exact (by
                  (with_reducible (repeat (first | apply own_drewN | apply own_drew)))
                  refine row_set ?_ Y _
                  exact (by with_reducible (repeat (first | exact HO2.out | apply own_drewN | apply own_drew | apply World.ownsRow.alloc))))
                · have hB := HB2.out
                  have hg0 : w.heap.size ≤ g := by omega
                  exact (by with_reducible (repeat (first | (refine below_drewN ?_ _) | (refine Below.drew ?_) | (refine below_alloc ?_ (by first | omega | (simp; done) | (simp; omega)) _) | (refine Below.setCell ?_ (by first | omega | (simp; done) | (simp; omega)) _) | exact Below.refl _ _ | assumption | (refine below_call ?_ (by first | omega | (simp; done) | (simp; omega)) (by assumption)))))
              case measure => simp [intOf]; omega
            by_cases hqp : q + z < p
            · have t0 : decide (0 ≤ p) = true := by simpa using hp0
              have t1 : decide (q < 0) = false := by simp; omega
              have t2 : decide (p + z < q) = false := by simp; omega
              have t3 : decide (0 ≤ q) = true := by simp; omega
              have t4 : decide (p < 0) = false := by simp; omega
              have t5 : decide (q + z < p) = true := by simpa using hqp
              go_wp2_with fail
              go_quiet (fail)
              go_wp2_with fail
              go_quiet (fail)
              go_wp2_with fail
              go_region
              go_wp2_with fail
              go_roundw
              case rel =>
                have hD := relax_down (d := D) (a := (X:Int)) (b := (Y:Int)) (c := z) (by rw [HP.out, HQ.out]; omega) (by rw [HQ.out]; omega) (by rw [HP.out, HQ.out]; omega)
                refine ⟨j + 1, by omega, by go_num, ?_, (by with_reducible (repeat (first | exact HGB2.out | apply Box.drewN | apply Box.drew | apply Box.alloc | (refine Box.setOther ?_ (by simp; omega) _)))), ?_⟩
                · rw [HMS.out, hD, HQ.out, Int.toNat_natCast]
                  exact (by
                  (with_reducible (repeat (first | apply own_drewN | apply own_drew)))
                  refine row_set ?_ X _
                  exact (by with_reducible (repeat (first | exact HO2.out | apply own_drewN | apply own_drew | apply World.ownsRow.alloc))))
                · have hB := HB2.out
                  have hg0 : w.heap.size ≤ g := by omega
                  exact (by with_reducible (repeat (first | (refine below_drewN ?_ _) | (refine Below.drew ?_) | (refine below_alloc ?_ (by first | omega | (simp; done) | (simp; omega)) _) | (refine Below.setCell ?_ (by first | omega | (simp; done) | (simp; omega)) _) | exact Below.refl _ _ | assumption | (refine below_call ?_ (by first | omega | (simp; done) | (simp; omega)) (by assumption)))))
              case measure => simp [intOf]; omega
            have t0 : decide (0 ≤ p) = true := by simpa using hp0
            have t1 : decide (q < 0) = false := by simp; omega
            have t2 : decide (p + z < q) = false := by simp; omega
            have t3 : decide (0 ≤ q) = true := by simp; omega
            have t4 : decide (p < 0) = false := by simp; omega
            have t5 : decide (q + z < p) = false := by simp; omega
            go_wp2_with fail
            go_quiet (fail)
            go_wp2_with fail
            go_quiet (fail)
            go_wp2_with fail
            go_roundw
            case rel =>
              have hD := relax_none (d := D) (a := (X:Int)) (b := (Y:Int)) (c := z) (by rw [HP.out, HQ.out]; omega) (by rw [HP.out, HQ.out]; omega)
              refine ⟨j + 1, by omega, by go_num, ?_, (by with_reducible (repeat (first | exact HGB2.out | apply Box.drewN | apply Box.drew | apply Box.alloc | (refine Box.setOther ?_ (by simp; omega) _)))), ?_⟩
              · rw [HMS.out, hD]
                exact (by with_reducible (repeat (first | exact HO2.out | apply own_drewN | apply own_drew | apply World.ownsRow.alloc)))
              · have hB := HB2.out
                have hg0 : w.heap.size ≤ g := by omega
                exact (by with_reducible (repeat (first | (refine below_drewN ?_ _) | (refine Below.drew ?_) | (refine below_alloc ?_ (by first | omega | (simp; done) | (simp; omega)) _) | (refine Below.setCell ?_ (by first | omega | (simp; done) | (simp; omega)) _) | exact Below.refl _ _ | assumption | (refine below_call ?_ (by first | omega | (simp; done) | (simp; omega)) (by assumption)))))
            case measure => simp [intOf]; omega
          · by_cases hq0 : 0 ≤ q
            · have t0 : decide (0 ≤ p) = false := by simp; omega
              have t4 : decide (p < 0) = true := by simp; omega
              have t3 : decide (0 ≤ q) = true := by simpa using hq0
              go_wp2_with fail
              go_quiet (fail)
              go_wp2_with fail
              go_quiet (fail)
              go_wp2_with fail
              go_region
              go_wp2_with fail
              go_roundw
              case rel =>
                have hD := relax_down (d := D) (a := (X:Int)) (b := (Y:Int)) (c := z) (by rw [HP.out, HQ.out]; omega) (by rw [HQ.out]; omega) (by rw [HP.out, HQ.out]; omega)
                refine ⟨j + 1, by omega, by go_num, ?_, (by with_reducible (repeat (first | exact HGB2.out | apply Box.drewN | apply Box.drew | apply Box.alloc | (refine Box.setOther ?_ (by simp; omega) _)))), ?_⟩
                · rw [HMS.out, hD, HQ.out, Int.toNat_natCast]
                  exact (by
                  (with_reducible (repeat (first | apply own_drewN | apply own_drew)))
                  refine row_set ?_ X _
                  exact (by with_reducible (repeat (first | exact HO2.out | apply own_drewN | apply own_drew | apply World.ownsRow.alloc))))
                · have hB := HB2.out
                  have hg0 : w.heap.size ≤ g := by omega
                  exact (by with_reducible (repeat (first | (refine below_drewN ?_ _) | (refine Below.drew ?_) | (refine below_alloc ?_ (by first | omega | (simp; done) | (simp; omega)) _) | (refine Below.setCell ?_ (by first | omega | (simp; done) | (simp; omega)) _) | exact Below.refl _ _ | assumption | (refine below_call ?_ (by first | omega | (simp; done) | (simp; omega)) (by assumption)))))
              case measure => simp [intOf]; omega
            have t0 : decide (0 ≤ p) = false := by simp; omega
            have t4 : decide (p < 0) = true := by simp; omega
            have t3 : decide (0 ≤ q) = false := by simp; omega
            go_wp2_with fail
            go_quiet (fail)
            go_wp2_with fail
            go_quiet (fail)
            go_wp2_with fail
            go_roundw
            case rel =>
              have hD := relax_none (d := D) (a := (X:Int)) (b := (Y:Int)) (c := z) (by rw [HP.out, HQ.out]; omega) (by rw [HP.out, HQ.out]; omega)
              refine ⟨j + 1, by omega, by go_num, ?_, (by with_reducible (repeat (first | exact HGB2.out | apply Box.drewN | apply Box.drew | apply Box.alloc | (refine Box.setOther ?_ (by simp; omega) _)))), ?_⟩
              · rw [HMS.out, hD]
                exact (by with_reducible (repeat (first | exact HO2.out | apply own_drewN | apply own_drew | apply World.ownsRow.alloc)))
              · have hB := HB2.out
                have hg0 : w.heap.size ≤ g := by omega
                exact (by with_reducible (repeat (first | (refine below_drewN ?_ _) | (refine Below.drew ?_) | (refine below_alloc ?_ (by first | omega | (simp; done) | (simp; omega)) _) | (refine Below.setCell ?_ (by first | omega | (simp; done) | (simp; omega)) _) | exact Below.refl _ _ | assumption | (refine below_call ?_ (by first | omega | (simp; done) | (simp; omega)) (by assumption)))))
            case measure => simp [intOf]; omega
        · obtain rfl : j = m := by omega
          go_wp2_with fail
          go_roundw
          case rel =>
            refine ⟨r + 1, by omega, by go_num, ?_, HGB2.out, HB2.out⟩
            rw [← midD_all, ← HM.out]
            exact HO2.out
          case measure => simp [intOf]; omega
    · obtain rfl : r = N := by omega
      go_wp2_with fail
      go_ret
      refine ⟨_, rfl, ?_, HB.out⟩
      have hO := HO.out
      have e : midD ls r 0 (startD (r:Int) (F:Int)) = distL (r:Int) ls (F:Int) := by
        unfold midD distL
        rw [List.take_zero, Int.toNat_natCast]; rfl
      rw [e] at hO
      have hl := distL_len (r:Int) ls (F:Int)
      rw [Int.toNat_natCast] at hl
      rw [hl]
      exact OwnR.of hO
end Go.Proofs.Ytoebefpmfgkpoaa
