/- The nodes behind the labels of a stack: stackNodes of the program, l4Nodes of the reference: stkOf. · The nodes behind the labels of a stack: l4Nodes of the reference: stkOf. · The end of a stack: StackEnd of the program and of the reference. -/
import Derived.Test.YtoebefpmfgkpoaaStep
import Derived.Test.YtoebefpmfgkpoaaCost
namespace Go.Proofs.Ytoebefpmfgkpoaa
set_option linter.unusedSimpArgs false
set_option linter.unusedVariables false
open Go.RowKit

/-- What a call that lists the nodes of a stack leaves behind. -/
structure StkPost (w : World) (n : Int) (ls : List LinkD) (a : Int) (s : List LabelD) (e : Ending) (w' : World) : Prop where
  no : stkOf n ls a s = none → ∃ A m c, e = .returned (.tuple #[.slice A m c, .bool false])
  yes : ∀ q, stkOf n ls a s = some q → ∃ v, e = .returned (.tuple #[v, .bool true]) ∧ OwnR w' w.heap.size w'.heap.size 3 1 v (q.length + 1) ((a :: q).map (Value.int .i64))
  below : Below w.heap.size w w'
theorem own_lit1 {w : World} {b base : Nat} {x : Value} {t : TypeId} (h : Box w b #[x] t) (hb : base ≤ b) : w.ownsRow base t 1 (.slice (some ⟨b, 0, none⟩) 1 1) 1 [x] :=
  ⟨by simp, .inr ⟨b, 1, #[x], rfl, hb, h, Nat.le_refl _, by unfold maxLen; omega, by simp, by simp⟩⟩
theorem stkOf_long {n : Int} {ls : List LinkD} {a : Int} {s : List LabelD} (h : 8 < s.length) : stkOf n ls a s = none := by unfold stkOf; rw [if_neg (by simp; omega)]
theorem stkOf_bad {n : Int} {ls : List LinkD} {a : Int} {s : List LabelD} (h : (gOk n ls && inB a 0 (n - 1)) = false) : stkOf n ls a s = none := by unfold stkOf; rw [Bool.and_assoc, h]; simp
theorem stkOf_ok {n : Int} {ls : List LinkD} {a : Int} {s : List LabelD} (h : (gOk n ls && inB a 0 (n - 1)) = true) (hs : s.length ≤ 8) : stkOf n ls a s = stkL n ls a s := by unfold stkOf; rw [Bool.and_assoc, h]; simp [hs]
theorem own_at {w : World} {lo g n cap : Nat} {q : List Int} (h : w.ownsRow lo 3 1 (.slice (some ⟨g, 0, none⟩) n cap) n (q.map (Value.int .i64))) {k : Nat} {x : Int} (hk : q[k]? = some x) : w.cell? ⟨g, k, none⟩ = some (.int .i64 x) ∧ w.frozen? ⟨g, k, none⟩ = false := by
  have hl : k < n := by
    have h1 := (List.getElem?_eq_some_iff.1 hk).1
    have h2 := h.1
    simp at h2; omega
  refine ⟨(h.cellAt k (by omega)).trans ?_, h.frozenAt _⟩
  rw [List.getElem?_map, hk]; rfl
theorem lastN_at (a : Int) (q : List Int) : (a :: q)[q.length]? = some (lastN a q) := by
  rw [lastN_get, List.getD_eq_getElem?_getD, List.getElem?_eq_getElem (by simp)]; rfl
set_option maxRecDepth 100000 in
set_option maxHeartbeats 4000000 in
theorem iStk (n : Int) (ls : List LinkD) (a : Int) (s : List LabelD) (v u : Value) (w : World) (hv : TriplesAt w v ls) (hu : PairsAt w u s) :
    Calls Try.prog 44 #[.agg #[.int .i64 n, v], .int .i64 a, u] w (StkPost w n ls a s) := by
  have HV := Lib.hid hv; have HU := Lib.hid hu
  obtain ⟨va, vm, vcap, rfl⟩ := hv.form
  obtain ⟨ua, ucap, ub, uoff, rfl, hucap, humax, hua, huc⟩ := hu
  obtain ⟨m, hm⟩ : ∃ m, m = s.length := ⟨_, rfl⟩
  rw [← hm] at hucap hua HU ⊢
  have HM := Lib.hid hm; have HUC := Lib.hid huc; have HUA := Lib.hid hua
  unfold maxLen at humax
  clear hm huc hua hv
  by_cases h8 : 8 < m
  · have t0 : decide ((8:Int) < (m:Int)) = true := by simp; omega
    go_enter Try.func44, Try.ntmps44
    go_wp2_with fail
    go_ret2
    have hn : stkOf n ls a s = none := stkOf_long (by have := HM.out; omega)
    exact ⟨fun _ => ⟨_, _, _, rfl⟩, (fun q hq => by rw [hn] at hq; cases hq), (by with_reducible (repeat (first | (refine below_drewN ?_ _) | (refine Below.drew ?_) | (refine below_alloc ?_ (by first | omega | (simp; done) | (simp; omega)) _) | (refine Below.setCell ?_ (by first | omega | (simp; done) | (simp; omega)) _) | exact Below.refl _ _ | assumption | (refine below_call ?_ (by first | omega | (simp; done) | (simp; omega)) (by assumption)))))⟩
  have t0 : decide ((8:Int) < (m:Int)) = false := by simp; omega
  rcases Bool.eq_false_or_eq_true (gOk n ls && inB a 0 (n - 1)) with g | g
  rotate_left
  · have HGN := Lib.hid g
    go_enter Try.func44, Try.ntmps44
    go_wp2_with (go_at_call 52; refine (iHasNode n a ls _ _ (HV.out.below (by with_reducible (repeat (first | (refine below_drewN ?_ _) | (refine Below.drew ?_) | (refine below_alloc ?_ (by first | omega | (simp; done) | (simp; omega)) _) | (refine Below.setCell ?_ (by first | omega | (simp; done) | (simp; omega)) _) | exact Below.refl _ _ | assumption | (refine below_call ?_ (by first | omega | (simp; done) | (simp; omega)) (by assumption))))) (Nat.le_refl _))).mono ?_; rw [HGN.out]; rintro e w1 ⟨rfl, hb⟩)
    go_ret2
    have hn : stkOf n ls a s = none := stkOf_bad HGN.out
    have BW := Lib.hid (below_call (B := w.heap.size) (a := w) (by with_reducible (repeat (first | (refine below_drewN ?_ _) | (refine Below.drew ?_) | (refine below_alloc ?_ (by first | omega | (simp; done) | (simp; omega)) _) | (refine Below.setCell ?_ (by first | omega | (simp; done) | (simp; omega)) _) | exact Below.refl _ _ | assumption | (refine below_call ?_ (by first | omega | (simp; done) | (simp; omega)) (by assumption))))) (Nat.le_refl _) hb)
    exact ⟨fun _ => ⟨_, _, _, rfl⟩, (fun q hq => by rw [hn] at hq; cases hq), BW.out⟩
  have HGN := Lib.hid g
  have hg : GOk n ls := gOk_iff.1 (by rw [Bool.and_eq_true] at g; exact g.1)
  have ha : nd n.toNat a := hg.nN.2 (by rw [Bool.and_eq_true] at g; have := inB_iff.1 g.2; omega)
  have HG := Lib.hid hg; have HA := Lib.hid ha
  obtain ⟨i0, hi, hz0, hz1, hz2⟩ := info_parts infoI
  have HI := Lib.hid hi; have HZ0 := Lib.hid hz0; have HZ1 := Lib.hid hz1; have HZ2 := Lib.hid hz2
  clear g hg ha hi hz0 hz1 hz2
  go_enter Try.func44, Try.ntmps44
  go_wp2_with (go_at_call 52; refine (iHasNode n a ls _ _ (HV.out.below (by with_reducible (repeat (first | (refine below_drewN ?_ _) | (refine Below.drew ?_) | (refine below_alloc ?_ (by first | omega | (simp; done) | (simp; omega)) _) | (refine Below.setCell ?_ (by first | omega | (simp; done) | (simp; omega)) _) | exact Below.refl _ _ | assumption | (refine below_call ?_ (by first | omega | (simp; done) | (simp; omega)) (by assumption))))) (Nat.le_refl _))).mono ?_; rw [HGN.out]; rintro e w1 ⟨rfl, hb⟩)
  have G := Lib.hid (Box.call (b := w.heap.size) (c := #[.int .i64 n, .slice va vm vcap]) (t := 25) hb (by with_reducible (repeat (first | (refine box_at _ _ _ ?_; first | rfl | (simp; done)) | apply Box.alloc | apply Box.drewN | apply Box.drew))))
  obtain ⟨G_0, G_1, G_2, G_3, G_4⟩ := box2 G.out
  have BW := Lib.hid (below_call (B := w.heap.size) (a := w) (by with_reducible (repeat (first | (refine below_drewN ?_ _) | (refine Below.drew ?_) | (refine below_alloc ?_ (by first | omega | (simp; done) | (simp; omega)) _) | (refine Below.setCell ?_ (by first | omega | (simp; done) | (simp; omega)) _) | exact Below.refl _ _ | assumption | (refine below_call ?_ (by first | omega | (simp; done) | (simp; omega)) (by assumption))))) (Nat.le_refl _) hb)
  have hsz := BW.out.size
  have HR0 : Hid ((w1.alloc (.cells #[.int .i64 a] 3)).ownsRow (w.heap.size + 1) 3 1 (.slice (some ⟨w1.heap.size, 0, none⟩) 1 1) 1 (([a] : List Int).map (Value.int .i64))) := Lib.hid (own_lit1 (box_new _ _ _) (by omega))
  have HB0 : Hid (Below w.heap.size w (w1.alloc (.cells #[.int .i64 a] 3))) := Lib.hid (BW.out.alloc hsz _)
  have HG0 := Lib.hid (G.out.alloc (.cells #[.int .i64 a] 3))
  clear G_0 G_1 G_2 G_3 G_4 hb hsz
  go_loopw [8, 26] (fun ov i wr => ∃ (k : Nat) (q : List Int), k ≤ m ∧ i = .int .i64 k ∧ stkL n ls a (s.take k) = some q ∧ q.length = k ∧ wr.ownsRow (w.heap.size + 1) 3 1 ov (k + 1) ((a :: q).map (Value.int .i64)) ∧ Below w.heap.size w wr ∧ Box wr w.heap.size #[.int .i64 n, .slice va vm vcap] 25) (fun _ i _ => m - (intOf i).toNat)
  case atStart => exact ⟨0, [], Nat.zero_le _, rfl, rfl, rfl, HR0.out, HB0.out, HG0.out⟩
  case round =>
    obtain ⟨k, q, hk, rfl, hq, hql, hO, hB, hG⟩ := hrel
    clear HR0 HB0 HG0 BW G
    have HB := Lib.hid hB; have HQ := Lib.hid hq; have HQL := Lib.hid hql
    clear hq hql
    by_cases hkm : k < m
    · obtain ⟨⟨lk, lx⟩, hx⟩ := at_lt HM.out hkm
      have hua := HUA.out (by omega)
      subst hua
      obtain ⟨d0, d1⟩ := HUC.out k lk lx hx
      have hbd := cell_lt d0
      have e0 := cell_below HB.out d0 hbd
      have e1 := cell_below HB.out d1 hbd
      obtain ⟨g1, c1, hgc, hlo⟩ := own_pos hO (by omega)
      subst hgc
      have hc := lastN_at a q
      rw [HQL.out] at hc
      obtain ⟨c, hce⟩ : ∃ c, lastN a q = c := ⟨_, rfl⟩
      have HCE := Lib.hid hce
      rw [hce] at hc
      obtain ⟨r0, r1⟩ := own_at hO hc
      have hkI : (k:Int) < (m:Int) := by omega
      have hkI1 : (k:Int) < (((k + 1 : Nat)) : Int) := by omega
      have hkk : k < k + 1 := by omega
      have hk0 : (0:Int) ≤ (k:Int) := by omega
      have HX := Lib.hid hx; have HO := Lib.hid hO
      have hcn : Hid (nd n.toNat c) := Lib.hid (by rw [← hce]; exact (stk_walk HG.out HA.out HQ.out).2.2.2.2)
      have HSN := Lib.hid (stkL_snoc HX.out HQ.out)
      rw [hce] at HSN
      clear hx d0 d1 hc hce hO hB
      rcases hh : hopTo n ls c (lk, lx) with _ | b
      · have HH := Lib.hid hh
        clear hh
        go_wp2_with fail
        have L0 := box_new wr #[.int .i64 lk, .int .i64 lx] 56
        have G0 := hG.alloc (.cells #[.int .i64 lk, .int .i64 lx] 56)
        have BW0 : Below wr.heap.size wr (wr.alloc (.cells #[.int .i64 lk, .int .i64 lx] 56)) := (by with_reducible (repeat (first | (refine below_drewN ?_ _) | (refine Below.drew ?_) | (refine below_alloc ?_ (by first | omega | (simp; done) | (simp; omega)) _) | (refine Below.setCell ?_ (by first | omega | (simp; done) | (simp; omega)) _) | exact Below.refl _ _ | assumption | (refine below_call ?_ (by first | omega | (simp; done) | (simp; omega)) (by assumption)))))
        have r2 := cell_alloc r0 (.cells #[.int .i64 lk, .int .i64 lx] 56)
        obtain ⟨W, hW⟩ : ∃ W, wr.alloc (.cells #[.int .i64 lk, .int .i64 lx] 56) = W := ⟨_, rfl⟩
        rw [hW] at L0 G0 BW0 r2 ⊢
        have HBW := Lib.hid BW0
        clear hW BW0
        obtain ⟨I, φ, h0, hφ, hmk⟩ := famOf (W).heap.size (W)
        haveI : Nonempty I := h0.elim fun i _ => ⟨i⟩
        have H0 := Lib.hid h0; have HF := Lib.hid hφ; have HMK := Lib.hid hmk; have HBs : Hid ((W).heap.size ≤ (W).heap.size) := Lib.hid (Nat.le_refl _)
        clear h0 hφ hmk
        obtain ⟨G_0, G_1, G_2, G_3, G_4⟩ := box2F fun i => G0.below (HF.out i) G0.lt
        obtain ⟨L_0, L_1, L_2, L_3, L_4⟩ := box2F fun i => L0.below (HF.out i) L0.lt
        have e2 : ∀ j, (φ j).cell? ⟨g1, k, none⟩ = some (.int .i64 c) := fun j => cell_below (HF.out j) r2 (cell_lt r2)
        have HC : Hid (∀ i, Calls Try.prog 75 #[.agg #[.int .i64 n, .slice va vm vcap], .int .i64 c, .agg #[.int .i64 lk, .int .i64 lx]] (φ i) (HopPost (φ i) n ls c (lk, lx) (useV n ls c (lk, lx)))) := Lib.hid fun i => iUse n ls c lk lx _ _ (HV.out.below (HB.out.trans ((HBW.out.trans ((HF.out i).mono HBW.out.size)).mono HB.out.size)) (Nat.le_refl _)) HG.out hcn.out
        unfold HopPost at HC
        rw [HH.out] at HC
        clear r2 L0 G0
        refine wp_region_fam φ H0.out (by kernel_rfl) (by kernel_rfl) ?_
        repeat (go_big_quiet_step (first | (go_at_call 75; exact quiet_fam HF.out HBs.out HMK.out (HC.out _))))
        refine wpQuiet_nil ?_
        intro _ hw'
        obtain ⟨nq, hw''⟩ := hw'
        subst hw''
        have hb := HF.out nq
        obtain ⟨w2, hw2⟩ : ∃ x, φ nq = x := ⟨_, rfl⟩
        rw [hw2] at hb ⊢
        clear hw2
        go_wp2_with fail
        go_ret2
        have hn : stkOf n ls a s = none := by
          rw [stkOf_ok HGN.out (by have := HM.out; omega)]
          exact stkL_none (k := k + 1) (by rw [HSN.out, HH.out])
        exact ⟨fun _ => ⟨_, _, _, rfl⟩, (fun q hq => by rw [hn] at hq; cases hq), HB.out.trans ((HBW.out.trans (hb.mono HBW.out.size)).mono HB.out.size)⟩
      · have HH := Lib.hid hh
        clear hh
        go_wp2_with fail
        have L0 := box_new wr #[.int .i64 lk, .int .i64 lx] 56
        have G0 := hG.alloc (.cells #[.int .i64 lk, .int .i64 lx] 56)
        have BW0 : Below wr.heap.size wr (wr.alloc (.cells #[.int .i64 lk, .int .i64 lx] 56)) := (by with_reducible (repeat (first | (refine below_drewN ?_ _) | (refine Below.drew ?_) | (refine below_alloc ?_ (by first | omega | (simp; done) | (simp; omega)) _) | (refine Below.setCell ?_ (by first | omega | (simp; done) | (simp; omega)) _) | exact Below.refl _ _ | assumption | (refine below_call ?_ (by first | omega | (simp; done) | (simp; omega)) (by assumption)))))
        have r2 := cell_alloc r0 (.cells #[.int .i64 lk, .int .i64 lx] 56)
        obtain ⟨W, hW⟩ : ∃ W, wr.alloc (.cells #[.int .i64 lk, .int .i64 lx] 56) = W := ⟨_, rfl⟩
        rw [hW] at L0 G0 BW0 r2 ⊢
        have HBW := Lib.hid BW0
        clear hW BW0
        obtain ⟨I, φ, h0, hφ, hmk⟩ := famOf (W).heap.size (W)
        haveI : Nonempty I := h0.elim fun i _ => ⟨i⟩
        have H0 := Lib.hid h0; have HF := Lib.hid hφ; have HMK := Lib.hid hmk; have HBs : Hid ((W).heap.size ≤ (W).heap.size) := Lib.hid (Nat.le_refl _)
        clear h0 hφ hmk
        obtain ⟨G_0, G_1, G_2, G_3, G_4⟩ := box2F fun i => G0.below (HF.out i) G0.lt
        obtain ⟨L_0, L_1, L_2, L_3, L_4⟩ := box2F fun i => L0.below (HF.out i) L0.lt
        have e2 : ∀ j, (φ j).cell? ⟨g1, k, none⟩ = some (.int .i64 c) := fun j => cell_below (HF.out j) r2 (cell_lt r2)
        have HC : Hid (∀ i, Calls Try.prog 75 #[.agg #[.int .i64 n, .slice va vm vcap], .int .i64 c, .agg #[.int .i64 lk, .int .i64 lx]] (φ i) (HopPost (φ i) n ls c (lk, lx) (useV n ls c (lk, lx)))) := Lib.hid fun i => iUse n ls c lk lx _ _ (HV.out.below (HB.out.trans ((HBW.out.trans ((HF.out i).mono HBW.out.size)).mono HB.out.size)) (Nat.le_refl _)) HG.out hcn.out
        unfold HopPost at HC
        rw [HH.out] at HC
        rw [useV_some HH.out] at HC
        clear r2 L0
        refine wp_region_fam φ H0.out (by kernel_rfl) (by kernel_rfl) ?_
        repeat (go_big_quiet_step (first | (go_at_call 75; exact quiet_fam HF.out HBs.out HMK.out (HC.out _))))
        refine wpQuiet_nil ?_
        intro _ hw'
        obtain ⟨nq, hw''⟩ := hw'
        subst hw''
        have hb := HF.out nq
        obtain ⟨w2, hw2⟩ : ∃ x, φ nq = x := ⟨_, rfl⟩
        rw [hw2] at hb ⊢
        clear hw2
        have hO3 := ((OwnR.of HO.out).below ((HBW.out.trans (hb.mono HBW.out.size))) (Nat.le_refl _)).1
        have hB3 : Below w.heap.size w w2 := HB.out.trans ((HBW.out.trans (hb.mono HBW.out.size)).mono HB.out.size)
        have hs3 := hB3.size
        have HO3 := Lib.hid hO3; have HB3 := Lib.hid hB3
        have HG3 := Lib.hid (G0.below hb G0.lt)
        have HLO := Lib.hid hlo
        clear hO3 hB3 hb G0 hG
        go_wp2_with (at_builtin; refine wpList_append_rd rfl _ _ _ rfl (w.heap.size + 1) 3 i0 _ 1 8 Try.underlying26 HI.out HZ0.out HZ1.out HZ2.out rfl (by omega) (.slice (some ⟨g1, 0, none⟩) (k + 1) c1) (k + 1) ((a :: q).map (Value.int .i64)) rfl (by with_reducible (repeat (first | exact HO3.out | apply own_drewN | apply own_drew | apply World.ownsRow.alloc | (refine own_setCell ?_ (by first | (simp; done) | omega | (simp; omega)) _)))) (some ⟨w2.heap.size, 0, none⟩) 1 1 [.int .i64 b] rfl (srcAt_one (box_new _ #[.int .i64 b] _) rfl) (one_ok _ _) (by unfold maxLen; omega) (by omega) (by simp; omega) ?_; intro v' w3 hown3 hgrow hloc)
        have hB4 : Below w.heap.size w w3 := Below.grown (by have := HB3.out; exact (by with_reducible (repeat (first | (refine below_drewN ?_ _) | (refine Below.drew ?_) | (refine below_alloc ?_ (by first | omega | (simp; done) | (simp; omega)) _) | (refine Below.setCell ?_ (by first | omega | (simp; done) | (simp; omega)) _) | exact Below.refl _ _ | assumption | (refine below_call ?_ (by first | omega | (simp; done) | (simp; omega)) (by assumption)))))) hgrow (by simp; omega) (fun j hj => by have := (HO3.out.lt j hj).1; omega)
        have hG4 := (HG3.out.alloc (.cells #[.int .i64 b] 3)).grown hgrow (fun j hj => by have := (HO3.out.lt j hj).1; omega)
        have HB4 := Lib.hid hB4; have HO4 := Lib.hid hown3; have HG4 := Lib.hid hG4
        clear hB4 hgrow hown3 hloc hG4
        go_wp2_with fail
        go_roundw
        case rel =>
          refine ⟨k + 1, q ++ [b], by omega, by go_num, by rw [HSN.out, HH.out], by rw [List.length_append, HQL.out]; rfl, ?_, HB4.out, HG4.out⟩
          have := HO4.out
          rw [map_snoc] at this
          simpa using this
        case measure => simp [intOf]; omega
    · obtain rfl : k = m := by omega
      go_wp2_with fail
      go_ret2
      have hs : stkOf n ls a s = some q := by rw [stkOf_ok HGN.out (by have := HM.out; omega), ← HQ.out, List.take_of_length_le (by have := HM.out; omega)]
      refine ⟨(fun h => by rw [hs] at h; cases h), (fun q' hq' => ?_), HB.out⟩
      rw [hs] at hq'
      injection hq' with hq'
      subst hq'
      exact ⟨_, rfl, by rw [HQL.out]; exact (OwnR.of hO).mono (by omega) (Nat.le_refl _)⟩
end Go.Proofs.Ytoebefpmfgkpoaa
namespace Go.Proofs.Ytoebefpmfgkpoaa
set_option linter.unusedSimpArgs false
set_option linter.unusedVariables false
open Go.RowKit

set_option maxRecDepth 100000 in
set_option maxHeartbeats 4000000 in
theorem sStk (n : Int) (ls : List LinkD) (a : Int) (s : List LabelD) (v u : Value) (w : World) (hv : TriplesAt w v ls) (hu : PairsAt w u s) :
    Calls Try.prog 62 #[.agg #[.int .i64 n, v], .int .i64 a, u] w (StkPost w n ls a s) := by
  have HV := Lib.hid hv; have HU := Lib.hid hu
  obtain ⟨va, vm, vcap, rfl⟩ := hv.form
  obtain ⟨ua, ucap, ub, uoff, rfl, hucap, humax, hua, huc⟩ := hu
  obtain ⟨m, hm⟩ : ∃ m, m = s.length := ⟨_, rfl⟩
  rw [← hm] at hucap hua HU ⊢
  have HM := Lib.hid hm; have HUC := Lib.hid huc; have HUA := Lib.hid hua
  unfold maxLen at humax
  clear hm huc hua hv
  rcases Bool.eq_false_or_eq_true (gOk n ls) with g | g
  rotate_left
  · have HGN := Lib.hid g
    go_enter Try.func62, Try.ntmps62
    go_wp2_with (go_at_call 70; refine (sGraphValid n ls _ _ (HV.out.below (by with_reducible (repeat (first | (refine below_drewN ?_ _) | (refine Below.drew ?_) | (refine below_alloc ?_ (by first | omega | (simp; done) | (simp; omega)) _) | (refine Below.setCell ?_ (by first | omega | (simp; done) | (simp; omega)) _) | exact Below.refl _ _ | assumption | (refine below_call ?_ (by first | omega | (simp; done) | (simp; omega)) (by assumption))))) (Nat.le_refl _))).mono ?_; rw [HGN.out]; rintro e w1 ⟨rfl, hb⟩)
    go_ret2
    have hn : stkOf n ls a s = none := stkOf_bad (by rw [HGN.out]; rfl)
    have BW := Lib.hid (below_call (B := w.heap.size) (a := w) (by with_reducible (repeat (first | (refine below_drewN ?_ _) | (refine Below.drew ?_) | (refine below_alloc ?_ (by first | omega | (simp; done) | (simp; omega)) _) | (refine Below.setCell ?_ (by first | omega | (simp; done) | (simp; omega)) _) | exact Below.refl _ _ | assumption | (refine below_call ?_ (by first | omega | (simp; done) | (simp; omega)) (by assumption))))) (Nat.le_refl _) hb)
    exact ⟨fun _ => ⟨_, _, _, rfl⟩, (fun q hq => by rw [hn] at hq; cases hq), BW.out⟩
  have HGN := Lib.hid g
  have hn := gOk_n g
  obtain ⟨hn1, hn8⟩ := hn
  rcases Bool.eq_false_or_eq_true (inB a 0 (n - 1)) with g2 | g2
  rotate_left
  · have HG2 := Lib.hid g2
    go_enter Try.func62, Try.ntmps62
    go_wp2_with fail
    refine (sGraphValid n ls _ _ (HV.out.below (by with_reducible (repeat (first | (refine below_drewN ?_ _) | (refine Below.drew ?_) | (refine below_alloc ?_ (by first | omega | (simp; done) | (simp; omega)) _) | (refine Below.setCell ?_ (by first | omega | (simp; done) | (simp; omega)) _) | exact Below.refl _ _ | assumption | (refine below_call ?_ (by first | omega | (simp; done) | (simp; omega)) (by assumption))))) (Nat.le_refl _))).mono ?_
    rw [HGN.out]
    rintro e w1 ⟨rfl, hb⟩
    have G := Lib.hid (Box.call (b := w.heap.size) (c := #[.int .i64 n, .slice va vm vcap]) (t := 25) hb (by with_reducible (repeat (first | (refine box_at _ _ _ ?_; first | rfl | (simp; done)) | apply Box.alloc | apply Box.drewN | apply Box.drew))))
    obtain ⟨G_0, G_1, G_2, G_3, G_4⟩ := box2 G.out
    have R := Lib.hid (Box.call (b := w.heap.size + 1) (c := #[.int .i64 a]) (t := 3) hb (by with_reducible (repeat (first | (refine box_at _ _ _ ?_; first | rfl | (simp; done)) | apply Box.alloc | apply Box.drewN | apply Box.drew))))
    obtain ⟨R_0, R_1, R_2⟩ := box1 R.out
    have BW := Lib.hid (below_call (B := w.heap.size) (a := w) (by with_reducible (repeat (first | (refine below_drewN ?_ _) | (refine Below.drew ?_) | (refine below_alloc ?_ (by first | omega | (simp; done) | (simp; omega)) _) | (refine Below.setCell ?_ (by first | omega | (simp; done) | (simp; omega)) _) | exact Below.refl _ _ | assumption | (refine below_call ?_ (by first | omega | (simp; done) | (simp; omega)) (by assumption))))) (Nat.le_refl _) hb)
    clear hb
    go_wp2_with fail
    refine (sNode _ _ _ _ hn1 hn8).mono ?_
    rw [HG2.out]
    rintro e w2 ⟨rfl, hb⟩
    have kk := Lib.hid (below_call (B := w1.heap.size) (a := w1) (by with_reducible (repeat (first | (refine below_drewN ?_ _) | (refine Below.drew ?_) | (refine below_alloc ?_ (by first | omega | (simp; done) | (simp; omega)) _) | (refine Below.setCell ?_ (by first | omega | (simp; done) | (simp; omega)) _) | exact Below.refl _ _ | assumption | (refine below_call ?_ (by first | omega | (simp; done) | (simp; omega)) (by assumption))))) (Nat.le_refl _) hb)
    replace BW := Lib.hid (BW.out.trans (kk.out.mono BW.out.size))
    replace G := Lib.hid (G.out.below kk.out G.out.lt)
    clear G_0 G_1 G_2 G_3 G_4
    obtain ⟨G_0, G_1, G_2, G_3, G_4⟩ := box2 G.out
    replace R := Lib.hid (R.out.below kk.out R.out.lt)
    clear R_0 R_1 R_2
    obtain ⟨R_0, R_1, R_2⟩ := box1 R.out
    clear hb kk
    go_wp2_with fail
    go_ret2
    have hn : stkOf n ls a s = none := stkOf_bad (by rw [HG2.out]; simp)
    exact ⟨fun _ => ⟨_, _, _, rfl⟩, (fun q hq => by rw [hn] at hq; cases hq), BW.out⟩
  have HG2 := Lib.hid g2
  have hgi : (gOk n ls && inB a 0 (n - 1)) = true := by rw [g, g2]; rfl
  have HGI := Lib.hid hgi
  by_cases h8 : 8 < m
  · have t0 : decide ((8:Int) < (m:Int)) = true := by simp; omega
    go_enter Try.func62, Try.ntmps62
    go_wp2_with fail
    refine (sGraphValid n ls _ _ (HV.out.below (by with_reducible (repeat (first | (refine below_drewN ?_ _) | (refine Below.drew ?_) | (refine below_alloc ?_ (by first | omega | (simp; done) | (simp; omega)) _) | (refine Below.setCell ?_ (by first | omega | (simp; done) | (simp; omega)) _) | exact Below.refl _ _ | assumption | (refine below_call ?_ (by first | omega | (simp; done) | (simp; omega)) (by assumption))))) (Nat.le_refl _))).mono ?_
    rw [HGN.out]
    rintro e w1 ⟨rfl, hb⟩
    have G := Lib.hid (Box.call (b := w.heap.size) (c := #[.int .i64 n, .slice va vm vcap]) (t := 25) hb (by with_reducible (repeat (first | (refine box_at _ _ _ ?_; first | rfl | (simp; done)) | apply Box.alloc | apply Box.drewN | apply Box.drew))))
    obtain ⟨G_0, G_1, G_2, G_3, G_4⟩ := box2 G.out
    have R := Lib.hid (Box.call (b := w.heap.size + 1) (c := #[.int .i64 a]) (t := 3) hb (by with_reducible (repeat (first | (refine box_at _ _ _ ?_; first | rfl | (simp; done)) | apply Box.alloc | apply Box.drewN | apply Box.drew))))
    obtain ⟨R_0, R_1, R_2⟩ := box1 R.out
    have BW := Lib.hid (below_call (B := w.heap.size) (a := w) (by with_reducible (repeat (first | (refine below_drewN ?_ _) | (refine Below.drew ?_) | (refine below_alloc ?_ (by first | omega | (simp; done) | (simp; omega)) _) | (refine Below.setCell ?_ (by first | omega | (simp; done) | (simp; omega)) _) | exact Below.refl _ _ | assumption | (refine below_call ?_ (by first | omega | (simp; done) | (simp; omega)) (by assumption))))) (Nat.le_refl _) hb)
    clear hb
    go_wp2_with fail
    refine (sNode _ _ _ _ hn1 hn8).mono ?_
    rw [HG2.out]
    rintro e w2 ⟨rfl, hb⟩
    have kk := Lib.hid (below_call (B := w1.heap.size) (a := w1) (by with_reducible (repeat (first | (refine below_drewN ?_ _) | (refine Below.drew ?_) | (refine below_alloc ?_ (by first | omega | (simp; done) | (simp; omega)) _) | (refine Below.setCell ?_ (by first | omega | (simp; done) | (simp; omega)) _) | exact Below.refl _ _ | assumption | (refine below_call ?_ (by first | omega | (simp; done) | (simp; omega)) (by assumption))))) (Nat.le_refl _) hb)
    replace BW := Lib.hid (BW.out.trans (kk.out.mono BW.out.size))
    replace G := Lib.hid (G.out.below kk.out G.out.lt)
    clear G_0 G_1 G_2 G_3 G_4
    obtain ⟨G_0, G_1, G_2, G_3, G_4⟩ := box2 G.out
    replace R := Lib.hid (R.out.below kk.out R.out.lt)
    clear R_0 R_1 R_2
    obtain ⟨R_0, R_1, R_2⟩ := box1 R.out
    clear hb kk
    go_wp2_with fail
    go_ret2
    have hn : stkOf n ls a s = none := stkOf_long (by have := HM.out; omega)
    exact ⟨fun _ => ⟨_, _, _, rfl⟩, (fun q hq => by rw [hn] at hq; cases hq), BW.out⟩
  have t0 : decide ((8:Int) < (m:Int)) = false := by simp; omega
  have hg : GOk n ls := gOk_iff.1 g
  have ha : nd n.toNat a := hg.nN.2 (by have := inB_iff.1 g2; omega)
  have HG := Lib.hid hg; have HA := Lib.hid ha
  obtain ⟨i0, hi, hz0, hz1, hz2⟩ := info_parts infoI
  have HI := Lib.hid hi; have HZ0 := Lib.hid hz0; have HZ1 := Lib.hid hz1; have HZ2 := Lib.hid hz2
  clear g hg ha hi hz0 hz1 hz2 hgi g2
  go_enter Try.func62, Try.ntmps62
  go_wp2_with fail
  refine (sGraphValid n ls _ _ (HV.out.below (by with_reducible (repeat (first | (refine below_drewN ?_ _) | (refine Below.drew ?_) | (refine below_alloc ?_ (by first | omega | (simp; done) | (simp; omega)) _) | (refine Below.setCell ?_ (by first | omega | (simp; done) | (simp; omega)) _) | exact Below.refl _ _ | assumption | (refine below_call ?_ (by first | omega | (simp; done) | (simp; omega)) (by assumption))))) (Nat.le_refl _))).mono ?_
  rw [HGN.out]
  rintro e w1 ⟨rfl, hb⟩
  have G := Lib.hid (Box.call (b := w.heap.size) (c := #[.int .i64 n, .slice va vm vcap]) (t := 25) hb (by with_reducible (repeat (first | (refine box_at _ _ _ ?_; first | rfl | (simp; done)) | apply Box.alloc | apply Box.drewN | apply Box.drew))))
  obtain ⟨G_0, G_1, G_2, G_3, G_4⟩ := box2 G.out
  have R := Lib.hid (Box.call (b := w.heap.size + 1) (c := #[.int .i64 a]) (t := 3) hb (by with_reducible (repeat (first | (refine box_at _ _ _ ?_; first | rfl | (simp; done)) | apply Box.alloc | apply Box.drewN | apply Box.drew))))
  obtain ⟨R_0, R_1, R_2⟩ := box1 R.out
  have BW := Lib.hid (below_call (B := w.heap.size) (a := w) (by with_reducible (repeat (first | (refine below_drewN ?_ _) | (refine Below.drew ?_) | (refine below_alloc ?_ (by first | omega | (simp; done) | (simp; omega)) _) | (refine Below.setCell ?_ (by first | omega | (simp; done) | (simp; omega)) _) | exact Below.refl _ _ | assumption | (refine below_call ?_ (by first | omega | (simp; done) | (simp; omega)) (by assumption))))) (Nat.le_refl _) hb)
  clear hb
  go_wp2_with fail
  refine (sNode _ _ _ _ hn1 hn8).mono ?_
  rw [HG2.out]
  rintro e w2 ⟨rfl, hb⟩
  have kk := Lib.hid (below_call (B := w1.heap.size) (a := w1) (by with_reducible (repeat (first | (refine below_drewN ?_ _) | (refine Below.drew ?_) | (refine below_alloc ?_ (by first | omega | (simp; done) | (simp; omega)) _) | (refine Below.setCell ?_ (by first | omega | (simp; done) | (simp; omega)) _) | exact Below.refl _ _ | assumption | (refine below_call ?_ (by first | omega | (simp; done) | (simp; omega)) (by assumption))))) (Nat.le_refl _) hb)
  replace BW := Lib.hid (BW.out.trans (kk.out.mono BW.out.size))
  replace G := Lib.hid (G.out.below kk.out G.out.lt)
  clear G_0 G_1 G_2 G_3 G_4
  obtain ⟨G_0, G_1, G_2, G_3, G_4⟩ := box2 G.out
  replace R := Lib.hid (R.out.below kk.out R.out.lt)
  clear R_0 R_1 R_2
  obtain ⟨R_0, R_1, R_2⟩ := box1 R.out
  clear hb kk
  go_wp2_with fail
  have HR0 : Hid (w2.ownsRow (w.heap.size + 1) 3 1 (.slice (some ⟨w.heap.size + 1, 0, none⟩) 1 1) 1 (([a] : List Int).map (Value.int .i64))) := Lib.hid (own_lit1 R.out (Nat.le_refl _))
  clear G_0 G_1 G_2 G_3 G_4 R_0 R_1 R_2
  go_loopw [8, 9] (fun ov i wr => ∃ (k : Nat) (q : List Int), k ≤ m ∧ i = .int .i64 k ∧ stkL n ls a (s.take k) = some q ∧ q.length = k ∧ wr.ownsRow (w.heap.size + 1) 3 1 ov (k + 1) ((a :: q).map (Value.int .i64)) ∧ Below w.heap.size w wr ∧ Box wr w.heap.size #[.int .i64 n, .slice va vm vcap] 25) (fun _ i _ => m - (intOf i).toNat)
  case atStart => exact ⟨0, [], Nat.zero_le _, rfl, rfl, rfl, HR0.out, BW.out, G.out⟩
  case round =>
    obtain ⟨k, q, hk, rfl, hq, hql, hO, hB, hG⟩ := hrel
    clear HR0 BW G R
    have HB := Lib.hid hB; have HQ := Lib.hid hq; have HQL := Lib.hid hql
    clear hq hql
    by_cases hkm : k < m
    · obtain ⟨⟨lk, lx⟩, hx⟩ := at_lt HM.out hkm
      have hua := HUA.out (by omega)
      subst hua
      obtain ⟨d0, d1⟩ := HUC.out k lk lx hx
      have hbd := cell_lt d0
      obtain ⟨g1, c1, hgc, hlo⟩ := own_pos hO (by omega)
      subst hgc
      have hc := lastN_at a q
      rw [HQL.out] at hc
      obtain ⟨c, hce⟩ : ∃ c, lastN a q = c := ⟨_, rfl⟩
      have HCE := Lib.hid hce
      rw [hce] at hc
      obtain ⟨r0, r1⟩ := own_at hO hc
      have hkI : (k:Int) < (m:Int) := by omega
      have hkI1 : (k:Int) < (((k + 1 : Nat)) : Int) := by omega
      have hkk : k < k + 1 := by omega
      have hk0 : (0:Int) ≤ (k:Int) := by omega
      have HX := Lib.hid hx; have HO := Lib.hid hO
      have hcn : Hid (nd n.toNat c) := Lib.hid (by rw [← hce]; exact (stk_walk HG.out HA.out HQ.out).2.2.2.2)
      have HSN := Lib.hid (stkL_snoc HX.out HQ.out)
      rw [hce] at HSN
      clear hx hc hce hO hB
      rcases hh : hopTo n ls c (lk, lx) with _ | b
      · have HH := Lib.hid hh
        clear hh
        go_wp2_with fail
        obtain ⟨I, φ, h0, hφ, hmk⟩ := famOf (wr).heap.size (wr)
        haveI : Nonempty I := h0.elim fun i _ => ⟨i⟩
        have H0 := Lib.hid h0; have HF := Lib.hid hφ; have HMK := Lib.hid hmk; have HBs : Hid ((wr).heap.size ≤ (wr).heap.size) := Lib.hid (Nat.le_refl _)
        clear h0 hφ hmk
        obtain ⟨G_0, G_1, G_2, G_3, G_4⟩ := box2F fun i => hG.below (HF.out i) hG.lt
        have HW : Hid (∀ i, Below w.heap.size w (φ i)) := Lib.hid fun i => HB.out.trans ((HF.out i).mono HB.out.size)
        have e0 : ∀ j, (φ j).cell? ⟨ub, uoff + k * 2, none⟩ = some (.int .i64 lk) := fun j => cell_below (HW.out j) d0 hbd
        have e1 : ∀ j, (φ j).cell? ⟨ub, uoff + k * 2 + 1, none⟩ = some (.int .i64 lx) := fun j => cell_below (HW.out j) d1 hbd
        have e2 : ∀ j, (φ j).cell? ⟨g1, k, none⟩ = some (.int .i64 c) := fun j => cell_below (HF.out j) r0 (cell_lt r0)
        have HC : Hid (∀ i, Calls Try.prog 85 #[.agg #[.int .i64 n, .slice va vm vcap], .int .i64 c, .agg #[.int .i64 lk, .int .i64 lx]] (φ i) (HopPost (φ i) n ls c (lk, lx) (stepV n ls c (lk, lx)))) := Lib.hid fun i => sStep n ls c lk lx _ _ (HV.out.below (HW.out i) (Nat.le_refl _)) HG.out hcn.out
        unfold HopPost at HC
        rw [HH.out] at HC
        clear r0 d0 d1
        refine wp_region_fam φ H0.out (by kernel_rfl) (by kernel_rfl) ?_
        repeat (go_big_quiet_step (first | (go_at_call 85; exact quiet_fam HF.out HBs.out HMK.out (HC.out _))))
        refine wpQuiet_nil ?_
        intro _ hw'
        obtain ⟨nq, hw''⟩ := hw'
        subst hw''
        have hb := HF.out nq
        obtain ⟨w3, hw2⟩ : ∃ x, φ nq = x := ⟨_, rfl⟩
        rw [hw2] at hb ⊢
        clear hw2
        go_wp2_with fail
        go_ret2
        have hn : stkOf n ls a s = none := by
          rw [stkOf_ok HGI.out (by have := HM.out; omega)]
          exact stkL_none (k := k + 1) (by rw [HSN.out, HH.out])
        exact ⟨fun _ => ⟨_, _, _, rfl⟩, (fun q hq => by rw [hn] at hq; cases hq), HB.out.trans (hb.mono HB.out.size)⟩
      · have HH := Lib.hid hh
        clear hh
        go_wp2_with fail
        obtain ⟨I, φ, h0, hφ, hmk⟩ := famOf (wr).heap.size (wr)
        haveI : Nonempty I := h0.elim fun i _ => ⟨i⟩
        have H0 := Lib.hid h0; have HF := Lib.hid hφ; have HMK := Lib.hid hmk; have HBs : Hid ((wr).heap.size ≤ (wr).heap.size) := Lib.hid (Nat.le_refl _)
        clear h0 hφ hmk
        obtain ⟨G_0, G_1, G_2, G_3, G_4⟩ := box2F fun i => hG.below (HF.out i) hG.lt
        have HW : Hid (∀ i, Below w.heap.size w (φ i)) := Lib.hid fun i => HB.out.trans ((HF.out i).mono HB.out.size)
        have e0 : ∀ j, (φ j).cell? ⟨ub, uoff + k * 2, none⟩ = some (.int .i64 lk) := fun j => cell_below (HW.out j) d0 hbd
        have e1 : ∀ j, (φ j).cell? ⟨ub, uoff + k * 2 + 1, none⟩ = some (.int .i64 lx) := fun j => cell_below (HW.out j) d1 hbd
        have e2 : ∀ j, (φ j).cell? ⟨g1, k, none⟩ = some (.int .i64 c) := fun j => cell_below (HF.out j) r0 (cell_lt r0)
        have HC : Hid (∀ i, Calls Try.prog 85 #[.agg #[.int .i64 n, .slice va vm vcap], .int .i64 c, .agg #[.int .i64 lk, .int .i64 lx]] (φ i) (HopPost (φ i) n ls c (lk, lx) (stepV n ls c (lk, lx)))) := Lib.hid fun i => sStep n ls c lk lx _ _ (HV.out.below (HW.out i) (Nat.le_refl _)) HG.out hcn.out
        unfold HopPost at HC
        rw [HH.out] at HC
        rw [stepV_some HH.out] at HC
        clear r0 d0 d1
        refine wp_region_fam φ H0.out (by kernel_rfl) (by kernel_rfl) ?_
        repeat (go_big_quiet_step (first | (go_at_call 85; exact quiet_fam HF.out HBs.out HMK.out (HC.out _))))
        refine wpQuiet_nil ?_
        intro _ hw'
        obtain ⟨nq, hw''⟩ := hw'
        subst hw''
        have hb := HF.out nq
        obtain ⟨w3, hw2⟩ : ∃ x, φ nq = x := ⟨_, rfl⟩
        rw [hw2] at hb ⊢
        clear hw2
        have hO3 := ((OwnR.of HO.out).below hb (Nat.le_refl _)).1
        have hB3 : Below w.heap.size w w3 := HB.out.trans (hb.mono HB.out.size)
        have hs3 := hB3.size
        have HO3 := Lib.hid hO3; have HB3 := Lib.hid hB3
        have HG3 := Lib.hid (hG.below hb hG.lt)
        have hws := hG.lt
        have hws3 := hb.size
        clear hO3 hB3 hb hG
        go_wp2_with (at_builtin; refine wpList_append_rd rfl _ _ _ rfl (w.heap.size + 1) 3 i0 _ 1 8 Try.underlying26 HI.out HZ0.out HZ1.out HZ2.out rfl (by omega) (.slice (some ⟨g1, 0, none⟩) (k + 1) c1) (k + 1) ((a :: q).map (Value.int .i64)) rfl (by with_reducible (repeat (first | exact HO3.out | apply own_drewN | apply own_drew | apply World.ownsRow.alloc | (refine own_setCell ?_ (by first | (simp; done) | omega | (simp; omega)) _)))) (some ⟨w3.heap.size, 0, none⟩) 1 1 [.int .i64 b] rfl (srcAt_one (box_new _ #[.int .i64 b] _) rfl) (one_ok _ _) (by unfold maxLen; omega) (by omega) (by simp; omega) ?_; intro v' w4 hown3 hgrow hloc)
        have hB4 : Below w.heap.size w w4 := Below.grown (by have := HB3.out; exact (by with_reducible (repeat (first | (refine below_drewN ?_ _) | (refine Below.drew ?_) | (refine below_alloc ?_ (by first | omega | (simp; done) | (simp; omega)) _) | (refine Below.setCell ?_ (by first | omega | (simp; done) | (simp; omega)) _) | exact Below.refl _ _ | assumption | (refine below_call ?_ (by first | omega | (simp; done) | (simp; omega)) (by assumption)))))) hgrow (by simp; omega) (fun j hj => by have := (HO3.out.lt j hj).1; omega)
        have hG4 := (HG3.out.alloc (.cells #[.int .i64 b] 3)).grown hgrow (fun j hj => by have := (HO3.out.lt j hj).1; omega)
        have HB4 := Lib.hid hB4; have HO4 := Lib.hid hown3; have HG4 := Lib.hid hG4
        clear hB4 hgrow hown3 hloc hG4
        go_wp2_with fail
        go_roundw
        case rel =>
          refine ⟨k + 1, q ++ [b], by omega, by go_num, by rw [HSN.out, HH.out], by rw [List.length_append, HQL.out]; rfl, ?_, HB4.out, HG4.out⟩
          have := HO4.out
          rw [map_snoc] at this
          simpa using this
        case measure => simp [intOf]; omega
    · obtain rfl : k = m := by omega
      go_wp2_with fail
      go_ret2
      have hs : stkOf n ls a s = some q := by rw [stkOf_ok HGI.out (by have := HM.out; omega), ← HQ.out, List.take_of_length_le (by have := HM.out; omega)]
      refine ⟨(fun h => by rw [hs] at h; cases h), (fun q' hq' => ?_), HB.out⟩
      rw [hs] at hq'
      injection hq' with hq'
      subst hq'
      exact ⟨_, rfl, by rw [HQL.out]; exact (OwnR.of hO).mono (by omega) (Nat.le_refl _)⟩
end Go.Proofs.Ytoebefpmfgkpoaa
namespace Go.Proofs.Ytoebefpmfgkpoaa
set_option linter.unusedSimpArgs false
set_option linter.unusedVariables false
open Go.RowKit

def endV (n : Int) (ls : List LinkD) (a : Int) (s : List LabelD) : Int := match stkOf n ls a s with | none => 0 | some q => lastN a q
structure StkFacts (n : Int) (ls : List LinkD) (a : Int) (s : List LabelD) (q : List Int) : Prop where
  ok : GOk n ls
  nd : nd n.toNat a
  len : s.length ≤ 8
  run : stkL n ls a s = some q
  qlen : q.length = s.length
  last : Go.Proofs.Ytoebefpmfgkpoaa.nd n.toNat (lastN a q)
theorem stkOf_some {n : Int} {ls : List LinkD} {a : Int} {s : List LabelD} {q : List Int} (h : stkOf n ls a s = some q) : StkFacts n ls a s q := by
  have h' := h
  unfold stkOf at h'
  split at h'
  · rename_i hc
    simp only [Bool.and_eq_true, decide_eq_true_iff] at hc
    have hg := gOk_iff.1 hc.1.2
    have hi := inB_iff.1 hc.2
    have hn := hg.nN.2 (show 0 ≤ a ∧ a < n by omega)
    have hw := stk_walk hg hn h'
    exact ⟨hg, hn, hc.1.1, h', hw.2.2.2.1, hw.2.2.2.2⟩
  · cases h'
end Go.Proofs.Ytoebefpmfgkpoaa
