/- Whether a stack crosses a link: StackCrosses of the program: crossV. -/
import Derived.Test.YtkegainegkdgpaaUsedI
namespace Go.Proofs.Ytkegainegkdgpaa
set_option linter.unusedSimpArgs false
set_option linter.unusedVariables false
open Go.RowKit

def crossV (n : Int) (ls : List LinkD) (a : Int) (s : List LabelD) (x : Int) : Bool := match stkOf n ls a s with | none => false | some _ => inB x 0 (ls.length - 1) && crossS n ls x.toNat a s
theorem crossV_none {n : Int} {ls : List LinkD} {a : Int} {s : List LabelD} {x : Int} (h : stkOf n ls a s = none) : crossV n ls a s x = false := by rw [crossV, h]
theorem crossV_out {n : Int} {ls : List LinkD} {a : Int} {s : List LabelD} {x : Int} {q : List Int} (h : stkOf n ls a s = some q) (h2 : inB x 0 (ls.length - 1) = false) : crossV n ls a s x = false := by rw [crossV, h]; simp [h2]
theorem crossV_in {n : Int} {ls : List LinkD} {a : Int} {s : List LabelD} {x : Nat} {q : List Int} (h : stkOf n ls a s = some q) (h2 : x < ls.length) : crossV n ls a s x = crossS n ls x a s := by
  rw [crossV, h]
  have : inB (x:Int) 0 (ls.length - 1) = true := inB_iff.2 (by omega)
  simp [this]
theorem cross_yes {n : Int} {ls : List LinkD} {j : Nat} : ∀ {s : List LabelD} {a : Int} (k : Nat), crossS n ls j a (s.take k) = true → crossS n ls j a s = true
  | [], a, k, h => by simpa using h
  | l :: s, a, 0, h => by simp [crossS] at h
  | l :: s, a, k + 1, h => by
    simp only [List.take_succ_cons, crossS, Bool.or_eq_true] at h ⊢
    rcases h with h | h
    · exact .inl h
    · exact .inr (cross_yes k h)
set_option maxRecDepth 100000 in
set_option maxHeartbeats 4000000 in
theorem iStackCrosses (n : Int) (ls : List LinkD) (a : Int) (s : List LabelD) (x0 : Int) (v u : Value) (w : World) (hv : TriplesAt w v ls) (hu : PairsAt w u s) :
    Calls Try.prog 34 #[.agg #[.int .i64 n, v], .int .i64 a, u, .int .i64 x0] w fun e w' => e = .returned (.bool (crossV n ls a s x0)) ∧ Below w.heap.size w w' := by
  have HV := Lib.hid hv; have HU := Lib.hid hu
  obtain ⟨va, vcap, vb, voff, rfl, hvcap, hvmax, hva, hvc⟩ := hv
  obtain ⟨vm, hvm⟩ : ∃ m, m = ls.length := ⟨_, rfl⟩
  rw [← hvm] at hvcap hva HV ⊢
  have HVM := Lib.hid hvm; have HVC := Lib.hid hvc; have HVA := Lib.hid hva
  clear hvm hvc hva
  obtain ⟨ua, ucap, ub, uoff, rfl, hucap, humax, hua, huc⟩ := hu
  obtain ⟨m, hm⟩ : ∃ m, m = s.length := ⟨_, rfl⟩
  rw [← hm] at hucap hua HU ⊢
  have HM := Lib.hid hm; have HUC := Lib.hid huc; have HUA := Lib.hid hua
  unfold maxLen at humax hvmax
  clear hm huc hua
  go_enter Try.func34, Try.ntmps34
  go_wp2_with fail
  refine (iStk n ls a s _ _ _ (HV.out.below (by with_reducible (repeat (first | (refine below_drewN ?_ _) | (refine Below.drew ?_) | (refine below_alloc ?_ (by first | omega | (simp; done) | (simp; omega)) _) | (refine Below.setCell ?_ (by first | omega | (simp; done) | (simp; omega)) _) | exact Below.refl _ _ | assumption | (refine below_call ?_ (by first | omega | (simp; done) | (simp; omega)) (by assumption))))) (Nat.le_refl _)) (HU.out.below (by with_reducible (repeat (first | (refine below_drewN ?_ _) | (refine Below.drew ?_) | (refine below_alloc ?_ (by first | omega | (simp; done) | (simp; omega)) _) | (refine Below.setCell ?_ (by first | omega | (simp; done) | (simp; omega)) _) | exact Below.refl _ _ | assumption | (refine below_call ?_ (by first | omega | (simp; done) | (simp; omega)) (by assumption))))) (Nat.le_refl _))).mono ?_
  rintro e w1 ⟨hno, hyes, hb⟩
  have G := Lib.hid (Box.call (b := w.heap.size) (c := #[.int .i64 n, .slice va vm vcap]) (t := 25) hb (by with_reducible (repeat (first | (refine box_at _ _ _ ?_; first | rfl | (simp; done)) | apply Box.alloc | apply Box.drewN | apply Box.drew))))
  obtain ⟨G_0, G_1, G_2, G_3, G_4⟩ := box2 G.out
  have BW := Lib.hid (below_call (B := w.heap.size) (a := w) (by with_reducible (repeat (first | (refine below_drewN ?_ _) | (refine Below.drew ?_) | (refine below_alloc ?_ (by first | omega | (simp; done) | (simp; omega)) _) | (refine Below.setCell ?_ (by first | omega | (simp; done) | (simp; omega)) _) | exact Below.refl _ _ | assumption | (refine below_call ?_ (by first | omega | (simp; done) | (simp; omega)) (by assumption))))) (Nat.le_refl _) hb)
  clear hb
  rcases hs : stkOf n ls a s with _ | q
  · obtain ⟨A, m', c, rfl⟩ := hno hs
    clear hno hyes
    have HS := Lib.hid hs
    clear hs
    go_wp2_with fail
    go_ret
    exact ⟨ret_bool (crossV_none HS.out).symm, BW.out⟩
  obtain ⟨v, rfl, hO⟩ := hyes q hs
  clear hno hyes
  have HS := Lib.hid hs
  clear hs
  have hF := stkOf_some HS.out
  have hm8 : m ≤ 8 := by have := hF.len; have := HM.out; omega
  have hqm : q.length = m := by have := hF.qlen; have := HM.out; omega
  rw [hqm] at hO
  have hn1 := hF.ok.n1
  have hn8 := hF.ok.n8
  have hvl : vm ≤ 14 := by have := hF.ok.len; have := HVM.out; omega
  have HFA := Lib.hid hF
  obtain ⟨g1, c1, rfl, hlo⟩ := own_pos hO.1 (by omega)
  rw [World.size_alloc] at hO
  rw [World.size_alloc] at hlo
  have HO := Lib.hid hO
  have hg1 := (hO.lt g1 rfl).2.2
  clear hF hO
  rcases Bool.eq_false_or_eq_true (inB x0 0 (ls.length - 1)) with g | g
  rotate_left
  · have HGI := Lib.hid g
    go_wp2_with fail
    refine (iHasLink n x0 ls _ _ (HV.out.below BW.out (Nat.le_refl _))).mono ?_
    rw [gOk_iff.2 HFA.out.ok, HGI.out]
    rintro e w2 ⟨rfl, hb⟩
    have kk := Lib.hid (below_call (B := w1.heap.size) (a := w1) (by with_reducible (repeat (first | (refine below_drewN ?_ _) | (refine Below.drew ?_) | (refine below_alloc ?_ (by first | omega | (simp; done) | (simp; omega)) _) | (refine Below.setCell ?_ (by first | omega | (simp; done) | (simp; omega)) _) | exact Below.refl _ _ | assumption | (refine below_call ?_ (by first | omega | (simp; done) | (simp; omega)) (by assumption))))) (Nat.le_refl _) hb)
    replace BW := Lib.hid (BW.out.trans (kk.out.mono BW.out.size))
    clear hb kk
    go_wp2_with fail
    go_ret
    exact ⟨ret_bool (crossV_out HS.out HGI.out).symm, BW.out⟩
  have hxi := inB_iff.1 g
  obtain ⟨j, rfl⟩ : ∃ j : Nat, x0 = j := ⟨x0.toNat, by omega⟩
  have hjl : j < ls.length := by omega
  have HJ := Lib.hid hjl
  have HCV := Lib.hid (crossV_in (x := j) HS.out hjl)
  have HGI := Lib.hid g
  clear g hxi hjl
  go_wp2_with fail
  refine (iHasLink n _ ls _ _ (HV.out.below BW.out (Nat.le_refl _))).mono ?_
  rw [gOk_iff.2 HFA.out.ok, HGI.out]
  rintro e w2 ⟨rfl, hb⟩
  have kk := Lib.hid (below_call (B := w1.heap.size) (a := w1) (by with_reducible (repeat (first | (refine below_drewN ?_ _) | (refine Below.drew ?_) | (refine below_alloc ?_ (by first | omega | (simp; done) | (simp; omega)) _) | (refine Below.setCell ?_ (by first | omega | (simp; done) | (simp; omega)) _) | exact Below.refl _ _ | assumption | (refine below_call ?_ (by first | omega | (simp; done) | (simp; omega)) (by assumption))))) (Nat.le_refl _) hb)
  replace BW := Lib.hid (BW.out.trans (kk.out.mono BW.out.size))
  replace G := Lib.hid (G.out.below kk.out G.out.lt)
  clear G_0 G_1 G_2 G_3 G_4
  obtain ⟨G_0, G_1, G_2, G_3, G_4⟩ := box2 G.out
  replace HO := Lib.hid ((HO.out.below hb (Nat.le_refl _)).mono (Nat.le_refl _) hb.size)
  replace hg1 : g1 < w2.heap.size := by have := hb.size; omega
  clear hb kk
  go_wp2_with fail
  go_loopw [30] (fun i wr => ∃ (k : Nat), k ≤ m ∧ i = .int .i64 k ∧ crossS n ls j a (s.take k) = false ∧ Below w.heap.size w wr ∧ Below w2.heap.size w2 wr) (fun i _ => m - (intOf i).toNat)
  case atStart => exact ⟨0, Nat.zero_le _, rfl, rfl, BW.out, Below.refl _ _⟩
  case round =>
    obtain ⟨k, hk, rfl, hnc, hB, hB1⟩ := hrel
    have HNC := Lib.hid hnc
    clear hnc
    by_cases hkm : k < m
    · obtain ⟨⟨lk, lx⟩, hx⟩ := at_lt HM.out hkm
      have hua := HUA.out (by omega)
      subst hua
      obtain ⟨d0, d1⟩ := HUC.out k lk lx hx
      have hbd := cell_lt d0
      have e0 := cell_below hB d0 hbd
      have e1 := cell_below hB d1 hbd
      obtain ⟨x, y, hA⟩ := stk_at HFA.out.ok HFA.out.nd HFA.out.run hx
      have hO2 := (HO.out.below hB1 (Nat.le_refl _)).1
      obtain ⟨r0, _⟩ := own_at hO2 hA.at_
      obtain ⟨r1, _⟩ := own_at hO2 (show (a :: q)[k + 1]? = some y by simpa using hA.next)
      have hkI : (k:Int) < (m:Int) := by omega
      have hkI3 : (k:Int) < (m:Int) + 1 := by omega
      have hkI2 : (k:Int) + 1 < (((m + 1 : Nat)) : Int) := by omega
      have hk0 : (0:Int) ≤ (k:Int) := by omega
      have hk01 : (0:Int) ≤ (k:Int) + 1 := by omega
      have hkk : ((k:Int) + 1).toNat = k + 1 := by omega
      have w3 : IntKind.i64.wrap ((k:Int) + 1) = (k:Int) + 1 := IntWalk.i64_in _ (by omega)
      have HAT := Lib.hid hA; have HB := Lib.hid hB; have HB1 := Lib.hid hB1
      have hG := G.out.below hB1 G.out.lt
      clear hx d0 d1 hA hO2 hB hB1
      by_cases h1 : lk = 1
      · subst h1
        have t1 : ((1:Int) == 2) = false := by simp
        have t2 : ((1:Int) == 1) = true := by simp
        go_wp2_with fail
        have L0 := box_new wr #[.int .i64 1, .int .i64 lx] 40
        have G0 := hG.alloc (.cells #[.int .i64 1, .int .i64 lx] 40)
        have BW0 : Below wr.heap.size wr (wr.alloc (.cells #[.int .i64 1, .int .i64 lx] 40)) := (by with_reducible (repeat (first | (refine below_drewN ?_ _) | (refine Below.drew ?_) | (refine below_alloc ?_ (by first | omega | (simp; done) | (simp; omega)) _) | (refine Below.setCell ?_ (by first | omega | (simp; done) | (simp; omega)) _) | exact Below.refl _ _ | assumption | (refine below_call ?_ (by first | omega | (simp; done) | (simp; omega)) (by assumption)))))
        have r2 := cell_alloc r0 (.cells #[.int .i64 1, .int .i64 lx] 40)
        have r3 := cell_alloc r1 (.cells #[.int .i64 1, .int .i64 lx] 40)
        obtain ⟨W, hW⟩ : ∃ W, wr.alloc (.cells #[.int .i64 1, .int .i64 lx] 40) = W := ⟨_, rfl⟩
        rw [hW] at L0 G0 BW0 r2 r3 ⊢
        have HBW := Lib.hid BW0
        clear hW BW0
        obtain ⟨I, φ, h0, hφ, hmk⟩ := famOf (W).heap.size (W)
        haveI : Nonempty I := h0.elim fun i _ => ⟨i⟩
        have H0 := Lib.hid h0; have HF := Lib.hid hφ; have HMK := Lib.hid hmk; have HBs : Hid ((W).heap.size ≤ (W).heap.size) := Lib.hid (Nat.le_refl _)
        clear h0 hφ hmk
        obtain ⟨G_0, G_1, G_2, G_3, G_4⟩ := box2F fun i => G0.below (HF.out i) G0.lt
        obtain ⟨L_0, L_1, L_2, L_3, L_4⟩ := box2F fun i => L0.below (HF.out i) L0.lt
        have e2 : ∀ j, (φ j).cell? ⟨g1, k, none⟩ = some (.int .i64 x) := fun j => cell_below (HF.out j) r2 (cell_lt r2)
        have e3 : ∀ j, (φ j).cell? ⟨g1, k + 1, none⟩ = some (.int .i64 y) := fun j => cell_below (HF.out j) r3 (cell_lt r3)
        have HC : Hid (∀ i, Calls Try.prog 61 #[.agg #[.int .i64 n, .slice va vm vcap], .int .i64 x, .int .i64 y, .int .i64 (j:Int)] (φ i) fun e w' => e = .returned (.bool (usedB n ls x y j)) ∧ Below (φ i).heap.size (φ i) w') := Lib.hid fun i => iUsed n ls x y j _ _ (HV.out.below (HB.out.trans ((HBW.out.trans ((HF.out i).mono HBW.out.size)).mono HB.out.size)) (Nat.le_refl _)) HFA.out.ok HAT.out.ndx HAT.out.ndy HJ.out
        clear r0 r1 r2 r3 L0
        rcases hu : usedB n ls x y j with _ | _
        · rw [hu] at HC
          have HU2 := Lib.hid hu
          clear hu
          refine wp_region_fam φ H0.out (by kernel_rfl) (by kernel_rfl) ?_
          repeat (go_big_quiet_step (first | (go_at_call 61; exact quiet_fam HF.out HBs.out HMK.out (HC.out _))))
          refine wpQuiet_nil ?_
          intro _ hw'
          obtain ⟨nq, hw''⟩ := hw'
          subst hw''
          have hb := HF.out nq
          obtain ⟨w3, hw2⟩ : ∃ x, φ nq = x := ⟨_, rfl⟩
          rw [hw2] at hb ⊢
          clear hw2
          have kk := Lib.hid (HBW.out.trans (hb.mono HBW.out.size))
          clear hb
          go_wp2_with fail
          go_roundw
          case rel =>
            exact ⟨k + 1, by omega, by go_num, by rw [HAT.out.cross, HNC.out, HU2.out]; simp, HB.out.trans (kk.out.mono HB.out.size), HB1.out.trans (kk.out.mono HB1.out.size)⟩
          case measure => simp [intOf]; omega
        · rw [hu] at HC
          have HU2 := Lib.hid hu
          clear hu
          refine wp_region_fam φ H0.out (by kernel_rfl) (by kernel_rfl) ?_
          repeat (go_big_quiet_step (first | (go_at_call 61; exact quiet_fam HF.out HBs.out HMK.out (HC.out _))))
          refine wpQuiet_nil ?_
          intro _ hw'
          obtain ⟨nq, hw''⟩ := hw'
          subst hw''
          have hb := HF.out nq
          obtain ⟨w3, hw2⟩ : ∃ x, φ nq = x := ⟨_, rfl⟩
          rw [hw2] at hb ⊢
          clear hw2
          have kk := Lib.hid (HBW.out.trans (hb.mono HBW.out.size))
          clear hb
          go_wp2_with fail
          go_ret
          refine ⟨ret_bool ?_, HB.out.trans (kk.out.mono HB.out.size)⟩
          rw [HCV.out]
          exact (cross_yes (k + 1) (by rw [HAT.out.cross, HU2.out]; simp)).symm
      · have h2 : lk = 2 := by
          rcases hop_cases HFA.out.ok HAT.out.hop with h2 | ⟨_, _, h2, _⟩
          · exact absurd h2.1 h1
          · exact h2
        subst h2
        have t1 : ((2:Int) == 2) = true := by simp
        have t2 : ((2:Int) == 1) = false := by simp
        by_cases h3 : lx = j
        · subst h3
          have t3 : ((j:Int) == j) = true := by simp
          go_wp2_with fail
          have L0 := box_new wr #[.int .i64 2, .int .i64 (j:Int)] 40
          have G0 := hG.alloc (.cells #[.int .i64 2, .int .i64 (j:Int)] 40)
          have BW0 : Below wr.heap.size wr (wr.alloc (.cells #[.int .i64 2, .int .i64 (j:Int)] 40)) := (by with_reducible (repeat (first | (refine below_drewN ?_ _) | (refine Below.drew ?_) | (refine below_alloc ?_ (by first | omega | (simp; done) | (simp; omega)) _) | (refine Below.setCell ?_ (by first | omega | (simp; done) | (simp; omega)) _) | exact Below.refl _ _ | assumption | (refine below_call ?_ (by first | omega | (simp; done) | (simp; omega)) (by assumption)))))
          have r2 := cell_alloc r0 (.cells #[.int .i64 2, .int .i64 (j:Int)] 40)
          have r3 := cell_alloc r1 (.cells #[.int .i64 2, .int .i64 (j:Int)] 40)
          obtain ⟨W, hW⟩ : ∃ W, wr.alloc (.cells #[.int .i64 2, .int .i64 (j:Int)] 40) = W := ⟨_, rfl⟩
          rw [hW] at L0 G0 BW0 r2 r3 ⊢
          have HBW := Lib.hid BW0
          clear hW BW0
          obtain ⟨I, φ, h0, hφ, hmk⟩ := famOf (W).heap.size (W)
          haveI : Nonempty I := h0.elim fun i _ => ⟨i⟩
          have H0 := Lib.hid h0; have HF := Lib.hid hφ; have HMK := Lib.hid hmk; have HBs : Hid ((W).heap.size ≤ (W).heap.size) := Lib.hid (Nat.le_refl _)
          clear h0 hφ hmk
          obtain ⟨G_0, G_1, G_2, G_3, G_4⟩ := box2F fun i => G0.below (HF.out i) G0.lt
          obtain ⟨L_0, L_1, L_2, L_3, L_4⟩ := box2F fun i => L0.below (HF.out i) L0.lt
          clear r2 r3
          refine wp_region_fam φ H0.out (by kernel_rfl) (by kernel_rfl) ?_
          repeat (go_big_quiet_step (fail))
          refine wpQuiet_nil ?_
          intro _ hw'
          obtain ⟨nq, hw''⟩ := hw'
          subst hw''
          have hb := HF.out nq
          obtain ⟨w3, hw2⟩ : ∃ x, φ nq = x := ⟨_, rfl⟩
          rw [hw2] at hb ⊢
          clear hw2
          have kk := Lib.hid (HBW.out.trans (hb.mono HBW.out.size))
          clear hb
          go_wp2_with fail
          go_ret
          refine ⟨ret_bool ?_, HB.out.trans (kk.out.mono HB.out.size)⟩
          rw [HCV.out]
          exact (cross_yes (k + 1) (by rw [HAT.out.cross]; simp)).symm
        · have t3 : (lx == (j:Int)) = false := by simpa using h3
          go_wp2_with fail
          have L0 := box_new wr #[.int .i64 2, .int .i64 lx] 40
          have G0 := hG.alloc (.cells #[.int .i64 2, .int .i64 lx] 40)
          have BW0 : Below wr.heap.size wr (wr.alloc (.cells #[.int .i64 2, .int .i64 lx] 40)) := (by with_reducible (repeat (first | (refine below_drewN ?_ _) | (refine Below.drew ?_) | (refine below_alloc ?_ (by first | omega | (simp; done) | (simp; omega)) _) | (refine Below.setCell ?_ (by first | omega | (simp; done) | (simp; omega)) _) | exact Below.refl _ _ | assumption | (refine below_call ?_ (by first | omega | (simp; done) | (simp; omega)) (by assumption)))))
          have r2 := cell_alloc r0 (.cells #[.int .i64 2, .int .i64 lx] 40)
          have r3 := cell_alloc r1 (.cells #[.int .i64 2, .int .i64 lx] 40)
          obtain ⟨W, hW⟩ : ∃ W, wr.alloc (.cells #[.int .i64 2, .int .i64 lx] 40) = W := ⟨_, rfl⟩
          rw [hW] at L0 G0 BW0 r2 r3 ⊢
          have HBW := Lib.hid BW0
          clear hW BW0
          obtain ⟨I, φ, h0, hφ, hmk⟩ := famOf (W).heap.size (W)
          haveI : Nonempty I := h0.elim fun i _ => ⟨i⟩
          have H0 := Lib.hid h0; have HF := Lib.hid hφ; have HMK := Lib.hid hmk; have HBs : Hid ((W).heap.size ≤ (W).heap.size) := Lib.hid (Nat.le_refl _)
          clear h0 hφ hmk
          obtain ⟨G_0, G_1, G_2, G_3, G_4⟩ := box2F fun i => G0.below (HF.out i) G0.lt
          obtain ⟨L_0, L_1, L_2, L_3, L_4⟩ := box2F fun i => L0.below (HF.out i) L0.lt
          clear r2 r3
          refine wp_region_fam φ H0.out (by kernel_rfl) (by kernel_rfl) ?_
          repeat (go_big_quiet_step (fail))
          refine wpQuiet_nil ?_
          intro _ hw'
          obtain ⟨nq, hw''⟩ := hw'
          subst hw''
          have hb := HF.out nq
          obtain ⟨w3, hw2⟩ : ∃ x, φ nq = x := ⟨_, rfl⟩
          rw [hw2] at hb ⊢
          clear hw2
          have kk := Lib.hid (HBW.out.trans (hb.mono HBW.out.size))
          clear hb
          go_wp2_with fail
          go_roundw
          case rel =>
            exact ⟨k + 1, by omega, by go_num, by rw [HAT.out.cross, HNC.out]; simp [h3], HB.out.trans (kk.out.mono HB.out.size), HB1.out.trans (kk.out.mono HB1.out.size)⟩
          case measure => simp [intOf]; omega
    · obtain rfl : k = m := by omega
      go_wp2_with fail
      go_ret
      refine ⟨ret_bool ?_, hB⟩
      rw [HCV.out]
      have := HNC.out
      rw [List.take_of_length_le (by have := HM.out; omega)] at this
      exact this.symm
end Go.Proofs.Ytkegainegkdgpaa
