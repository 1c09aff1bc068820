/- The cost of a stack: StackCost of the program and of the reference. -/
import Derived.Test.YtoebefpmfgkpoaaStkEnd
import Derived.Test.YtoebefpmfgkpoaaGrAll
namespace Go.Proofs.Ytoebefpmfgkpoaa
set_option linter.unusedSimpArgs false
set_option linter.unusedVariables false
open Go.RowKit

def costV (n : Int) (ls : List LinkD) (a : Int) (s : List LabelD) : Int := match stkOf n ls a s with | none => -1 | some _ => stkCost n ls a s
set_option maxRecDepth 100000 in
set_option maxHeartbeats 4000000 in
theorem iStackCost (n : Int) (ls : List LinkD) (a : Int) (s : List LabelD) (v u : Value) (w : World) (hv : TriplesAt w v ls) (hu : PairsAt w u s) :
    Calls Try.prog 15 #[.agg #[.int .i64 n, v], .int .i64 a, u] w fun e w' => e = .returned (.int .i64 (costV n ls a s)) ∧ Below w.heap.size w w' := by
  have HV := Lib.hid hv; have HU := Lib.hid hu
  obtain ⟨va, vcap, vb, voff, rfl, hvcap, hvmax, hva, hvc⟩ := hv
  obtain ⟨vm, hvm⟩ : ∃ m, m = ls.length := ⟨_, rfl⟩
  rw [← hvm] at hvcap hva HV ⊢
  have HVM := Lib.hid hvm; have HVC := Lib.hid hvc; have HVA := Lib.hid hva
  clear hvm hvc hva
  obtain ⟨ua, ucap, ub, uoff, rfl, hucap, humax, hua, huc⟩ := hu
  obtain ⟨m, hm⟩ : ∃ m, m = s.length := ⟨_, rfl⟩
  rw [← hm] at hucap hua HU ⊢
  have HM := Lib.hid hm; have HUC := Lib.hid huc; have HUA := Lib.hid hua
  unfold maxLen at humax hvmax
  clear hm huc hua
  go_enter Try.func15, Try.ntmps15
  go_wp2_with fail
  refine (iStk n ls a s _ _ _ (HV.out.below (by with_reducible (repeat (first | (refine below_drewN ?_ _) | (refine Below.drew ?_) | (refine below_alloc ?_ (by first | omega | (simp; done) | (simp; omega)) _) | (refine Below.setCell ?_ (by first | omega | (simp; done) | (simp; omega)) _) | exact Below.refl _ _ | assumption | (refine below_call ?_ (by first | omega | (simp; done) | (simp; omega)) (by assumption))))) (Nat.le_refl _)) (HU.out.below (by with_reducible (repeat (first | (refine below_drewN ?_ _) | (refine Below.drew ?_) | (refine below_alloc ?_ (by first | omega | (simp; done) | (simp; omega)) _) | (refine Below.setCell ?_ (by first | omega | (simp; done) | (simp; omega)) _) | exact Below.refl _ _ | assumption | (refine below_call ?_ (by first | omega | (simp; done) | (simp; omega)) (by assumption))))) (Nat.le_refl _))).mono ?_
  rintro e w1 ⟨hno, hyes, hb⟩
  have G := Lib.hid (Box.call (b := w.heap.size) (c := #[.int .i64 n, .slice va vm vcap]) (t := 25) hb (by with_reducible (repeat (first | (refine box_at _ _ _ ?_; first | rfl | (simp; done)) | apply Box.alloc | apply Box.drewN | apply Box.drew))))
  obtain ⟨G_0, G_1, G_2, G_3, G_4⟩ := box2 G.out
  have BW := Lib.hid (below_call (B := w.heap.size) (a := w) (by with_reducible (repeat (first | (refine below_drewN ?_ _) | (refine Below.drew ?_) | (refine below_alloc ?_ (by first | omega | (simp; done) | (simp; omega)) _) | (refine Below.setCell ?_ (by first | omega | (simp; done) | (simp; omega)) _) | exact Below.refl _ _ | assumption | (refine below_call ?_ (by first | omega | (simp; done) | (simp; omega)) (by assumption))))) (Nat.le_refl _) hb)
  clear hb
  rcases hs : stkOf n ls a s with _ | q
  · obtain ⟨A, m', c, rfl⟩ := hno hs
    clear hno hyes
    have HS := Lib.hid hs
    clear hs
    go_wp2_with fail
    go_ret
    exact ⟨ret_int (by rw [costV, HS.out]), BW.out⟩
  obtain ⟨v, rfl, hO⟩ := hyes q hs
  clear hno hyes
  have HS := Lib.hid hs
  clear hs
  have hF := stkOf_some HS.out
  have hm8 : m ≤ 8 := by have := hF.len; have := HM.out; omega
  have hqm : q.length = m := by have := hF.qlen; have := HM.out; omega
  rw [hqm] at hO
  have hn1 := hF.ok.n1
  have hn8 := hF.ok.n8
  have hvl : vm ≤ 14 := by have := hF.ok.len; have := HVM.out; omega
  have HFA := Lib.hid hF
  obtain ⟨g1, c1, rfl, hlo⟩ := own_pos hO.1 (by omega)
  rw [World.size_alloc] at hO
  rw [World.size_alloc] at hlo
  have HO := Lib.hid hO
  have hg1 := (hO.lt g1 rfl).2.2
  clear hF hO
  go_wp2_with fail
  go_loopw [9, 23] (fun sv i wr => ∃ (k : Nat), k ≤ m ∧ i = .int .i64 k ∧ sv = .int .i64 (stkCost n ls a (s.take k)) ∧ Below w.heap.size w wr ∧ Below w1.heap.size w1 wr) (fun _ i _ => m - (intOf i).toNat)
  case atStart => exact ⟨0, Nat.zero_le _, rfl, rfl, BW.out, Below.refl _ _⟩
  case round =>
    obtain ⟨k, hk, rfl, rfl, hB, hB1⟩ := hrel
    by_cases hkm : k < m
    · obtain ⟨⟨lk, lx⟩, hx⟩ := at_lt HM.out hkm
      have hua := HUA.out (by omega)
      subst hua
      obtain ⟨d0, d1⟩ := HUC.out k lk lx hx
      have hbd := cell_lt d0
      have e0 := cell_below hB d0 hbd
      have e1 := cell_below hB d1 hbd
      obtain ⟨x, y, hA⟩ := stk_at HFA.out.ok HFA.out.nd HFA.out.run hx
      have hO2 := (HO.out.below hB1 (Nat.le_refl _)).1
      obtain ⟨r0, _⟩ := own_at hO2 hA.at_
      obtain ⟨r1, _⟩ := own_at hO2 (show (a :: q)[k + 1]? = some y by simpa using hA.next)
      have hkI : (k:Int) < (m:Int) := by omega
      have hkI1 : (k:Int) < (((m + 1 : Nat)) : Int) := by omega
      have hkI3 : (k:Int) < (m:Int) + 1 := by omega
      have hkI2 : (k:Int) + 1 < (((m + 1 : Nat)) : Int) := by omega
      have hk0 : (0:Int) ≤ (k:Int) := by omega
      have hk01 : (0:Int) ≤ (k:Int) + 1 := by omega
      have hkk : ((k:Int) + 1).toNat = k + 1 := by omega
      have w3 : IntKind.i64.wrap ((k:Int) + 1) = (k:Int) + 1 := IntWalk.i64_in _ (by omega)
      have HAT := Lib.hid hA; have HB := Lib.hid hB; have HB1 := Lib.hid hB1
      have hsb := stkK_bnd HFA.out.ok HFA.out.nd HFA.out.run HFA.out.len k
      have hst := step_bnd HFA.out.ok HAT.out.ndx HAT.out.hop
      obtain ⟨S, hS⟩ : ∃ S, stkCost n ls a (s.take k) = S := ⟨_, rfl⟩
      obtain ⟨D, hD⟩ : ∃ D, costStep n ls x (lk, lx) = D := ⟨_, rfl⟩
      have HNX : Hid (stkCost n ls a (s.take (k + 1)) = S + D) := Lib.hid (by rw [HAT.out.cost, hS, hD])
      rw [hS] at hsb ⊢
      rw [hD] at hst
      have HD := Lib.hid hD
      have w4 : IntKind.i64.wrap (S + D) = S + D := IntWalk.i64_in _ (by omega)
      have hG := G.out.below hB1 G.out.lt
      clear hx d0 d1 hA hO2 hB hB1 hS hD
      by_cases h1 : lk = 1
      · subst h1
        have t1 : ((1:Int) == 1) = true := by simp
        go_wp2_with fail
        have L0 := box_new wr #[.int .i64 1, .int .i64 lx] 56
        have G0 := hG.alloc (.cells #[.int .i64 1, .int .i64 lx] 56)
        have r2 := cell_alloc r0 (.cells #[.int .i64 1, .int .i64 lx] 56)
        have r3 := cell_alloc r1 (.cells #[.int .i64 1, .int .i64 lx] 56)
        have BW0 : Below wr.heap.size wr (wr.alloc (.cells #[.int .i64 1, .int .i64 lx] 56)) := (by with_reducible (repeat (first | (refine below_drewN ?_ _) | (refine Below.drew ?_) | (refine below_alloc ?_ (by first | omega | (simp; done) | (simp; omega)) _) | (refine Below.setCell ?_ (by first | omega | (simp; done) | (simp; omega)) _) | exact Below.refl _ _ | assumption | (refine below_call ?_ (by first | omega | (simp; done) | (simp; omega)) (by assumption)))))
        obtain ⟨W, hW⟩ : ∃ W, wr.alloc (.cells #[.int .i64 1, .int .i64 lx] 56) = W := ⟨_, rfl⟩
        rw [hW] at G0 BW0 r2 r3 ⊢
        have B3 := Lib.hid (HB.out.trans (BW0.mono HB.out.size))
        have B4 := Lib.hid (HB1.out.trans (BW0.mono HB1.out.size))
        clear hW BW0 L0 hG r0 r1
        obtain ⟨d, hd⟩ : ∃ d, distL n ls x = d := ⟨_, rfl⟩
        have HDL := Lib.hid hd
        have HL : Hid (d.length = n.toNat) := Lib.hid (by rw [← hd]; exact distL_len n ls x)
        have hyn := HFA.out.ok.nN.1 HAT.out.ndy
        obtain ⟨hy0, hyn1⟩ := hyn
        have hyl : y < (d.length : Int) := by have := HL.out; omega
        have hdy : Hid (atD d y = D) := Lib.hid (by rw [← HD.out, ← hd]; unfold costStep; rw [if_pos rfl, nextN_of HAT.out.hop]; rfl)
        have A := Lib.hid G0
        obtain ⟨A_0, A_1, A_2, A_3, A_4⟩ := box2 G0
        clear hd G0
        refine wp_region_noPanic ?_
        refine wp_region_held_drew (S := (fun w' => w'.cell? ⟨w.heap.size, 0, none⟩ = some (.int .i64 n) ∧ w'.cell? ⟨w.heap.size, 1, none⟩ = some (.slice va vm vcap) ∧ w'.cell? ⟨g1, k, none⟩ = some (.int .i64 x) ∧ w'.cell? ⟨g1, k + 1, none⟩ = some (.int .i64 y))) (by kernel_rfl) (by ((try dsimp only); (first | go_keep | exact ⟨A_0, A_1, r2, r3⟩))) (fun hHeld => ?_)
        refine wpAnyH_take (i := 0) (oi := _) (v := ?_) rfl (by kernel_rfl) (by kernel_rfl) (by kernel_rfl) (fun _ _ _ h => h) (Or.inl ⟨by rfl, ?_⟩) (by assumption) ?_
        rotate_left
        focus (intro w hSw; (try dsimp only at hSw); go_simp; try (with_reducible rfl))
        try simp only [List.getElem_toArray, List.getElem_cons_zero, List.getElem_cons_succ, Act.put, List.setIfInBounds_toArray, List.set_cons_zero, List.set_cons_succ]
        refine wpAnyH_take (i := 1) (oi := _) (v := ?_) rfl (by kernel_rfl) (by kernel_rfl) (by kernel_rfl) (fun _ _ _ h => h) (Or.inl ⟨by rfl, ?_⟩) (by assumption) ?_
        rotate_left
        focus (intro w hSw; (try dsimp only at hSw); go_simp; try (with_reducible rfl))
        try simp only [List.getElem_toArray, List.getElem_cons_zero, List.getElem_cons_succ, Act.put, List.setIfInBounds_toArray, List.set_cons_zero, List.set_cons_succ]
        refine wpAnyH_take (i := 2) (oi := _) (v := ?_) rfl (by kernel_rfl) (by kernel_rfl) (by kernel_rfl) (fun _ _ _ h => h) (Or.inl ⟨by rfl, ?_⟩) (by assumption) ?_
        rotate_left
        focus (intro w hSw; (try dsimp only at hSw); go_simp; try (with_reducible rfl))
        try simp only [List.getElem_toArray, List.getElem_cons_zero, List.getElem_cons_succ, Act.put, List.setIfInBounds_toArray, List.set_cons_zero, List.set_cons_succ]
        refine wpAnyH_take (i := 3) (oi := _) (v := ?_) rfl (by kernel_rfl) (by kernel_rfl) (by kernel_rfl) (fun _ _ _ h => h) (Or.inl ⟨by rfl, ?_⟩) (by assumption) ?_
        rotate_left
        focus (intro w hSw; (try dsimp only at hSw); go_simp; try (with_reducible rfl))
        try simp only [List.getElem_toArray, List.getElem_cons_zero, List.getElem_cons_succ, Act.put, List.setIfInBounds_toArray, List.set_cons_zero, List.set_cons_succ]
        refine wpAnyH_take (i := 4) (oi := _) (v := ?_) rfl (by kernel_rfl) (by kernel_rfl) (by kernel_rfl) (fun _ _ _ h => h) (Or.inl ⟨by rfl, ?_⟩) (by assumption) ?_
        rotate_left
        focus (intro w hSw; (try dsimp only at hSw); go_simp; try (with_reducible rfl))
        try simp only [List.getElem_toArray, List.getElem_cons_zero, List.getElem_cons_succ, Act.put, List.setIfInBounds_toArray, List.set_cons_zero, List.set_cons_succ]
        refine wpAnyH_take (i := 5) (oi := _) (v := ?_) rfl (by kernel_rfl) (by kernel_rfl) (by kernel_rfl) (fun _ _ _ h => h) (Or.inl ⟨by rfl, ?_⟩) (by assumption) ?_
        rotate_left
        focus (intro w hSw; (try dsimp only at hSw); go_simp; try (with_reducible rfl))
        try simp only [List.getElem_toArray, List.getElem_cons_zero, List.getElem_cons_succ, Act.put, List.setIfInBounds_toArray, List.set_cons_zero, List.set_cons_succ]
        refine wpAnyH_take (i := 7) (oi := _) (v := ?_) rfl (by kernel_rfl) (by kernel_rfl) (by kernel_rfl) (fun _ _ _ h => h) (Or.inl ⟨by rfl, ?_⟩) (by assumption) ?_
        rotate_left
        focus (intro w hSw; (try dsimp only at hSw); go_simp; try (with_reducible rfl))
        try simp only [List.getElem_toArray, List.getElem_cons_zero, List.getElem_cons_succ, Act.put, List.setIfInBounds_toArray, List.set_cons_zero, List.set_cons_succ]
        refine wpAnyH_take (i := 8) (oi := _) (v := ?_) rfl (by kernel_rfl) (by kernel_rfl) (by kernel_rfl) (fun _ _ _ h => h) (Or.inl ⟨by rfl, ?_⟩) (by assumption) ?_
        rotate_left
        focus (intro w hSw; (try dsimp only at hSw); go_simp; try (with_reducible rfl))
        try simp only [List.getElem_toArray, List.getElem_cons_zero, List.getElem_cons_succ, Act.put, List.setIfInBounds_toArray, List.set_cons_zero, List.set_cons_succ]
        refine wpAnyH_take (i := 9) (oi := _) (v := ?_) rfl (by kernel_rfl) (by kernel_rfl) (by kernel_rfl) (fun _ _ _ h => h) (Or.inl ⟨by rfl, ?_⟩) (by assumption) ?_
        rotate_left
        focus (intro w hSw; (try dsimp only at hSw); go_simp; try (with_reducible rfl))
        try simp only [List.getElem_toArray, List.getElem_cons_zero, List.getElem_cons_succ, Act.put, List.setIfInBounds_toArray, List.set_cons_zero, List.set_cons_succ]
        refine wpAnyH_take (i := 10) (oi := _) (v := ?_) rfl (by kernel_rfl) (by kernel_rfl) (by kernel_rfl) (fun _ _ _ h => h) (Or.inl ⟨by rfl, ?_⟩) (by assumption) ?_
        rotate_left
        focus (intro w hSw; (try dsimp only at hSw); go_simp; try (with_reducible rfl))
        try simp only [List.getElem_toArray, List.getElem_cons_zero, List.getElem_cons_succ, Act.put, List.setIfInBounds_toArray, List.set_cons_zero, List.set_cons_succ]
        refine wpAnyH_take (i := 11) (oi := _) (v := ?_) rfl (by kernel_rfl) (by kernel_rfl) (by kernel_rfl) (fun _ _ _ h => h) (Or.inl ⟨by rfl, ?_⟩) (by assumption) ?_
        rotate_left
        focus (intro w hSw; (try dsimp only at hSw); go_simp; try (with_reducible rfl))
        try simp only [List.getElem_toArray, List.getElem_cons_zero, List.getElem_cons_succ, Act.put, List.setIfInBounds_toArray, List.set_cons_zero, List.set_cons_succ]
        refine wpAnyH_ready (rs := [6]) (by kernel_rfl) (by simp) ?_
        refine AllReadyH.cons (o := _) rfl (fun K hK => ?_) AllReadyH.nil
        go_simp
        (go_at_call 45; refine (iDist n ls x _ _ (HV.out.below B3.out.drew (Nat.le_refl _)) HFA.out.ok HAT.out.ndx).mono ?_; rintro e w2 ⟨v1, rfl, hO2, hb⟩; replace r2 := cell_below hb r2 (cell_lt r2); replace r3 := cell_below hb r3 (cell_lt r3); have kk := Lib.hid (below_call (B := W.heap.size) (a := W) (by with_reducible (repeat (first | (refine below_drewN ?_ _) | (refine Below.drew ?_) | (refine below_alloc ?_ (by first | omega | (simp; done) | (simp; omega)) _) | (refine Below.setCell ?_ (by first | omega | (simp; done) | (simp; omega)) _) | exact Below.refl _ _ | assumption | (refine below_call ?_ (by first | omega | (simp; done) | (simp; omega)) (by assumption))))) (Nat.le_refl _) hb); replace B3 := Lib.hid (B3.out.trans (kk.out.mono B3.out.size)); replace B4 := Lib.hid (B4.out.trans (kk.out.mono B4.out.size)); replace A := Lib.hid (A.out.below kk.out A.out.lt); clear A_0 A_1 A_2 A_3 A_4; obtain ⟨A_0, A_1, A_2, A_3, A_4⟩ := box2 A.out; rw [HDL.out] at hO2; obtain ⟨g2, c2, hgc, hlo2⟩ := own_pos hO2.1 (by have := HL.out; omega); subst hgc; obtain ⟨q0, q1⟩ := row_at hO2.1 rfl (show nd d.length y by rw [HL.out]; exact HAT.out.ndy); rw [hdy.out] at q0; clear hO2 hb kk)
        refine hK.out _ _ (by ((try dsimp only); (first | go_keep | exact ⟨A_0, A_1, r2, r3⟩))) (fun hHeld => ?_)
        clear hK K
        try simp only [List.getElem_toArray, List.getElem_cons_zero, List.getElem_cons_succ, Act.put, List.setIfInBounds_toArray, List.set_cons_zero, List.set_cons_succ]
        refine wpAnyH_take (i := 12) (oi := _) (v := ?_) rfl (by kernel_rfl) (by kernel_rfl) (by kernel_rfl) (fun _ _ _ h => h) (Or.inl ⟨by rfl, ?_⟩) (by assumption) ?_
        rotate_left
        focus (intro w hSw; (try dsimp only at hSw); go_simp; try (with_reducible rfl))
        try simp only [List.getElem_toArray, List.getElem_cons_zero, List.getElem_cons_succ, Act.put, List.setIfInBounds_toArray, List.set_cons_zero, List.set_cons_succ]
        refine wpAnyH_ready (rs := [13]) (by kernel_rfl) (by simp) ?_
        refine AllReadyH.cons (o := _) rfl (fun K hK => ?_) AllReadyH.nil
        go_simp
        refine hK.out _ _ (by ((try dsimp only); (first | go_keep | exact ⟨A_0, A_1, r2, r3⟩))) (fun hHeld => ?_)
        clear hK K
        try simp only [List.getElem_toArray, List.getElem_cons_zero, List.getElem_cons_succ, Act.put, List.setIfInBounds_toArray, List.set_cons_zero, List.set_cons_succ]
        refine wpAnyH_take (i := 14) (oi := _) (v := ?_) rfl (by kernel_rfl) (by kernel_rfl) (by kernel_rfl) (fun _ _ _ h => h) (Or.inl ⟨by rfl, ?_⟩) (by assumption) ?_
        rotate_left
        focus (intro w hSw; (try dsimp only at hSw); go_simp; try (with_reducible rfl))
        try simp only [List.getElem_toArray, List.getElem_cons_zero, List.getElem_cons_succ, Act.put, List.setIfInBounds_toArray, List.set_cons_zero, List.set_cons_succ]
        refine wpAnyH_take (i := 15) (oi := _) (v := ?_) rfl (by kernel_rfl) (by kernel_rfl) (by kernel_rfl) (fun _ _ _ h => h) (Or.inl ⟨by rfl, ?_⟩) (by assumption) ?_
        rotate_left
        focus (intro w hSw; (try dsimp only at hSw); go_simp; try (with_reducible rfl))
        try simp only [List.getElem_toArray, List.getElem_cons_zero, List.getElem_cons_succ, Act.put, List.setIfInBounds_toArray, List.set_cons_zero, List.set_cons_succ]
        refine wpAnyH_done (by kernel_rfl) ?_ _
        refine NoPanic.normal ?_
        go_wp2_with fail
        go_roundw
        case rel => exact ⟨k + 1, by omega, by go_num, by rw [HNX.out], B3.out, B4.out⟩
        case measure => simp [intOf]; omega
      · have t1 : (lk == 1) = false := by simpa using h1
        have hc := hop_cases HFA.out.ok HAT.out.hop
        obtain ⟨i, lnk, h2, h3, h4, h5⟩ := (Or.resolve_left hc (fun e => h1 e.1))
        obtain ⟨lx1, lx2, lz⟩ := lnk
        simp only at h2 h3
        subst h2
        subst h3
        have hDz : Hid (D = lz) := Lib.hid (by rw [← HD.out]; unfold costStep; rw [if_neg (by omega)]; simp only [Int.toNat_natCast]; rw [getD_of h4])
        have hil : i < vm := by have := (List.getElem?_eq_some_iff.1 h4).1; have := HVM.out; omega
        have hva := HVA.out (by omega)
        subst hva
        obtain ⟨_, _, d2⟩ := HVC.out i lx1 lx2 lz h4
        have e2 := cell_below HB.out d2 (cell_lt d2)
        have hvb := cell_lt e2
        have hiI : (i:Int) < (vm:Int) := by omega
        have hi0 : (0:Int) ≤ (i:Int) := by omega
        rw [hDz.out] at w4 HNX
        obtain ⟨A_0, A_1, A_2, A_3, A_4⟩ := box2 hG
        clear hc h4 h5 d2 hG hst
        go_wp2_with fail
        go_roundw
        case rel =>
          have hB := HB.out
          have hB1 := HB1.out
          exact ⟨k + 1, by omega, by go_num, by rw [HNX.out], (by with_reducible (repeat (first | (refine below_drewN ?_ _) | (refine Below.drew ?_) | (refine below_alloc ?_ (by first | omega | (simp; done) | (simp; omega)) _) | (refine Below.setCell ?_ (by first | omega | (simp; done) | (simp; omega)) _) | exact Below.refl _ _ | assumption | (refine below_call ?_ (by first | omega | (simp; done) | (simp; omega)) (by assumption))))), (by with_reducible (repeat (first | (refine below_drewN ?_ _) | (refine Below.drew ?_) | (refine below_alloc ?_ (by first | omega | (simp; done) | (simp; omega)) _) | (refine Below.setCell ?_ (by first | omega | (simp; done) | (simp; omega)) _) | exact Below.refl _ _ | assumption | (refine below_call ?_ (by first | omega | (simp; done) | (simp; omega)) (by assumption)))))⟩
        case measure => simp [intOf]; omega
    · obtain rfl : k = m := by omega
      go_wp2_with fail
      go_ret
      refine ⟨ret_int ?_, hB⟩
      rw [costV, HS.out, List.take_of_length_le (by have := HM.out; omega)]
end Go.Proofs.Ytoebefpmfgkpoaa
