/- FnStackNot: for every input the call returns true, and the argument reads afterwards as before. No condition. -/
import Derived.Test.YtkegainegkdgpaaLwH
import Derived.Test.YtkegainegkdgpaaDrawCr
import Derived.Test.YtkegainegkdgpaaWo
import Derived.Test.YtkegainegkdgpaaRows
import Derived.Test.YtkegainegkdgpaaOpen
import Derived.ProofKit
import Derived.OpenShut
import Derived.ShutString
import Derived.ChangeOld
import Derived.Lib.SmallJoins
namespace Go.Proofs.Ytkegainegkdgpaa.lawFnStackNot
set_option linter.unusedSimpArgs false
set_option linter.unusedVariables false
open Go.ChangeShapes Go.WideShapes Go.ChangeAt Go.RowKit Go.Joins
/-- As shL, in the machine's integers. -/
def shW (k : Nat) (l : LabelD) : LabelD := if l.1 = 2 ∧ (k:Int) < l.2 then (2, wrap64 (l.2 - 1)) else l
theorem shW_snoc {s : List LabelD} {j k : Nat} {l : LabelD} (h : s[k]? = some l) : (s.take (k + 1)).map (shW j) = (s.take k).map (shW j) ++ [shW j l] := by
  obtain ⟨h1, h2⟩ := List.getElem?_eq_some_iff.1 h
  rw [List.take_succ_eq_append_getElem h1, h2, List.map_append]; rfl
theorem shW_all {n : Int} {ls : List LinkD} {a : Int} {s : List LabelD} {q : List Int} (j : Nat) (h : stkOf n ls a s = some q) : s.map (shW j) = s.map (shL j) := by
  have hF := stkOf_some h
  refine List.map_congr_left fun l hl => ?_
  obtain ⟨k, hk⟩ := List.getElem?_of_mem hl
  obtain ⟨x, y, hA⟩ := stk_at hF.ok hF.nd hF.run hk
  unfold shW shL
  by_cases h2 : l.1 = 2 ∧ (j:Int) < l.2
  · rw [if_pos h2, if_pos h2]
    rcases hop_cases hF.ok hA.hop with ⟨h3, _⟩ | ⟨i, m, h3, h4, h5, _⟩
    · omega
    · have := (List.getElem?_eq_some_iff.1 h5).1
      have := hF.ok.len
      have hw : wrap64 (l.2 - 1) = l.2 - 1 := IntWalk.wrap64_in _ (by omega)
      rw [hw]
  · rw [if_neg h2, if_neg h2]
theorem not_stk {n : Int} {ls : List LinkD} {a : Int} {s : List LabelD} {q : List Int} {j : Nat} (h : stkOf n ls a s = some q) (hj : j < ls.length) (hx : crossV n ls a s (j:Int) = false) :
    stkOf n (ls.eraseIdx j) a (s.map (shL j)) = some q ∧ stkPV n (ls.eraseIdx j) a (s.map (shL j)) = stkPV n ls a s ∧ stkCost n (ls.eraseIdx j) a (s.map (shL j)) = stkCost n ls a s := by
  have hF := stkOf_some h
  rw [crossV_in h hj] at hx
  obtain ⟨h1, h2, h3⟩ := er_stk hF.ok hj hF.nd hF.run hx
  have hi := hF.ok.nN.1 hF.nd
  have hg : (gOk n (ls.eraseIdx j) && inB a 0 (n - 1)) = true := by rw [gOk_iff.2 (er_ok hF.ok), inB_iff.2 (by omega)]; rfl
  have h4 : stkOf n (ls.eraseIdx j) a (s.map (shL j)) = some q := by rw [stkOf_ok hg (by rw [List.length_map]; exact hF.len)]; exact h1
  exact ⟨h4, by unfold stkPV; rw [h4, h]; simp only [h2], h3⟩
set_option maxRecDepth 100000 in
set_option maxHeartbeats 4000000 in
theorem walk (v : Value) (w : World) (h : CodeAt w v) :
    Calls Try.prog 12 #[v] w fun e w' => e = .returned (.bool true) ∧ Below w.heap.size w w' := by
  obtain ⟨a0, n0, cap0, b0, off0, rfl, hcap0, hmax0, ha0, hc0⟩ := id h
  unfold maxLen at hmax0
  clear ha0 hc0
  have H := Lib.hid h
  obtain ⟨i0, hi, hz0, hz1, hz2⟩ := info_parts infoLab
  have HI := Lib.hid hi; have HZ0 := Lib.hid hz0; have HZ1 := Lib.hid hz1; have HZ2 := Lib.hid hz2
  clear h hi hz0 hz1 hz2
  by_cases hn : 1048576 < n0
  · go_enter Try.func12, Try.ntmps12
    go_wp2
    go_ret
    exact ⟨rfl, Below.refl _ _⟩
  go_enter Try.func12, Try.ntmps12
  go_wp2_with fail
  refine (drawCr _ _ H.out).mono ?_
  rintro e w1 ⟨⟨n, u, ls, a, x, s, y, rfl, hls, hT, hs, hP⟩, hb⟩
  have L1 : LwS w w1.heap.size n u ls x s (w1.alloc (.cells #[.int .i64 n, u] 25)) := LwS.new hb hT hP
  obtain ⟨ua, uc, rfl, hul, hum⟩ := hT.form2
  obtain ⟨xa, xc, rfl, hxl, hxm⟩ := hP.form2
  unfold maxLen at hum hxm
  have HL := Lib.hid L1
  clear hb L1 hT hP
  obtain ⟨C, hC⟩ : ∃ C, crossV n ls a s y = C := ⟨_, rfl⟩
  have HCV := Lib.hid hC
  clear hC
  obtain ⟨M, hM⟩ : ∃ M, ls.length = M := ⟨_, rfl⟩
  have HM := Lib.hid hM
  rw [hM] at HL hls hul ⊢
  clear hM
  go_wp2_with fail
  refine (iStackCrosses n ls a s y _ _ _ HL.out.tri HL.out.prs).mono ?_
  rw [HCV.out]
  rintro e w2 ⟨rfl, hb⟩
  replace HL := Lib.hid (HL.out.below hb)
  obtain ⟨c0, c1, f0, f1, l0⟩ := box2 HL.out.box
  clear hb
  go_wp2_with fail
  refine (sStackCrosses n ls a s y _ _ _ HL.out.tri HL.out.prs).mono ?_
  rw [HCV.out]
  rintro e w3 ⟨rfl, hb⟩
  replace HL := Lib.hid (HL.out.below hb)
  clear hb c0 c1 f0 f1 l0
  obtain ⟨c0, c1, f0, f1, l0⟩ := box2 HL.out.box
  cases C with
  | true =>
    go_wp2_with fail
    go_ret
    exact ⟨rfl, HL.out.bw⟩
  | false =>
    by_cases hy0 : y < 0
    · have t1 : decide (y < 0) = true := decide_eq_true hy0
      go_wp2_with fail
      go_ret
      exact ⟨rfl, HL.out.bw⟩
    have t1 : decide (y < 0) = false := decide_eq_false hy0
    by_cases hyM : (M:Int) ≤ y
    · have t2 : decide ((M:Int) ≤ y) = true := decide_eq_true hyM
      go_wp2_with fail
      go_ret
      exact ⟨rfl, HL.out.bw⟩
    have t2 : decide ((M:Int) ≤ y) = false := decide_eq_false hyM
    obtain ⟨j, rfl⟩ : ∃ j : Nat, y = j := ⟨y.toNat, by omega⟩
    have hjM : j < M := by omega
    have hjl : j < ls.length := by have := HM.out; omega
    obtain ⟨gk, hgk⟩ : ∃ gk, gOk n ls = gk := ⟨_, rfl⟩
    have HGK := Lib.hid hgk
    clear hgk
    cases gk with
    | false =>
      have HNO : Hid ((gOk n ls && inB (j:Int) 0 (ls.length - 1)) = false) := Lib.hid (by rw [HGK.out]; rfl)
      go_wp2_with fail
      refine (iWoNo n (j:Int) ls _ _ HL.out.tri HNO.out).mono ?_
      rintro e w4 ⟨rfl, hb⟩
      have HL4 := Lib.hid (HL.out.below hb)
      clear hb c0 c1 f0 f1 l0
      go_wp2_with fail
      go_ret
      exact ⟨rfl, by have := HL4.out.bw; exact (by with_reducible (repeat (first | (refine below_drewN ?_ _) | (refine Below.drew ?_) | (refine below_alloc ?_ (by first | omega | (simp; done) | (simp; omega)) _) | (refine Below.setCell ?_ (by first | omega | (simp; done) | (simp; omega)) _) | exact Below.refl _ _ | assumption | (refine below_call ?_ (by first | omega | (simp; done) | (simp; omega)) (by assumption)))))⟩
    | true =>
      have hG := gOk_iff.1 HGK.out
      have HG := Lib.hid hG
      clear hG
      go_wp2_with fail
      refine (iWoYes n j ls _ _ HL.out.tri HG.out hjl).mono ?_
      rintro e w4 ⟨A, ac, rfl, hA, hb⟩
      obtain ⟨E, hE⟩ : ∃ E, ls.eraseIdx j = E := ⟨_, rfl⟩
      rw [hE] at hA ⊢
      have HE := Lib.hid hE
      have HL4 := Lib.hid ((HL.out.below hb).alloc (.cells #[.int .i64 n, .slice A E.length ac] 25))
      have HX4 := Lib.hid (box_new w4 #[.int .i64 n, .slice A E.length ac] 25)
      have HA4 := Lib.hid (hA.below (B := w4.heap.size) ((Below.refl _ _).alloc (Nat.le_refl _) (.cells #[.int .i64 n, .slice A E.length ac] 25)) (Nat.le_refl _))
      clear hb hA hE c0 c1 f0 f1 l0 HL
      obtain ⟨W, hW⟩ : ∃ W, w4.alloc (.cells #[.int .i64 n, .slice A E.length ac] 25) = W := ⟨_, rfl⟩
      have hWs : w4.heap.size + 1 = W.heap.size := by rw [← hW]; simp
      rw [hW] at HL4 HX4 HA4
      have HR0 : Hid ((W.alloc (.cells #[] 40)).ownsRow W.heap.size 40 2 (.slice (some ⟨w4.heap.size + 1, 0, none⟩) 0 0) 0 (cells2 ((s.take 0).map (shW j)))) := Lib.hid (by rw [hWs]; exact own_new rfl (Nat.le_refl _))
      have HB0 : Hid (Below W.heap.size W (W.alloc (.cells #[] 40))) := Lib.hid ((Below.refl _ _).alloc (Nat.le_refl _) _)
      have HWW := Lib.hid hW
      clear hW hWs
      go_wp2_with fail
      obtain ⟨m, hm⟩ : ∃ m, s.length = m := ⟨_, rfl⟩
      have HMM := Lib.hid hm
      rw [hm] at HL4 hxl hs ⊢
      clear hm
      go_loopw [11, 12] (fun sv i wr => ∃ (k : Nat), k ≤ m ∧ i = .int .i64 k ∧ wr.ownsRow W.heap.size 40 2 sv k (cells2 ((s.take k).map (shW j))) ∧ Below W.heap.size W wr) (fun _ i _ => m - (intOf i).toNat)
      case atStart => exact ⟨0, by omega, rfl, by have := HR0.out; rw [← HWW.out] at this ⊢; exact this, by have := HB0.out; rw [← HWW.out] at this ⊢; exact this⟩
      case round =>
        obtain ⟨k, hk, rfl, hR, hB⟩ := hrel
        clear HR0 HB0
        have HR := Lib.hid hR; have HB := Lib.hid hB
        obtain ⟨sa, sc, rfl⟩ := own_slice hR
        have HLr := Lib.hid (HL4.out.below hB)
        have HXr := Lib.hid (HX4.out.below hB HX4.out.lt)
        have HAr := Lib.hid (HA4.out.below hB (Nat.le_refl _))
        clear hR hB
        by_cases hkm : k < m
        · obtain ⟨⟨p1, p2⟩, hp⟩ := at_lt (l := s) (n := s.length) rfl (k := k) (by have := HMM.out; omega)
          obtain ⟨xb, xo, rfl, hxb⟩ := HL4.out.prs.some (by have := HMM.out; omega)
          obtain ⟨d0, d1⟩ := HLr.out.prs.get hp
          have hbd := cell_lt d0
          have hkI : (k:Int) < (m:Int) := by omega
          have hk0 : (0:Int) ≤ (k:Int) := by omega
          obtain ⟨y1, y2, hyy⟩ : ∃ y1 y2, shW j (p1, p2) = (y1, y2) := ⟨_, _, rfl⟩
          have hsn := shW_snoc (j := j) hp
          rw [hyy] at hsn
          have HSN := Lib.hid hsn; have HYY := Lib.hid hyy
          clear hp hsn hyy
          by_cases h2 : p1 = 2 ∧ (j:Int) < p2
          · obtain ⟨rfl, h3⟩ := h2
            have hyv : y1 = 2 ∧ y2 = wrap64 (p2 - 1) := by
              have := HYY.out
              unfold shW at this
              rw [if_pos ⟨rfl, h3⟩] at this
              injection this with e1 e2
              exact ⟨e1.symm, e2.symm⟩
            obtain ⟨rfl, rfl⟩ := hyv
            have t3 : decide ((j:Int) < p2) = true := decide_eq_true h3
            go_wp2_with (at_builtin; refine wpList_append_rd rfl _ _ _ rfl W.heap.size 40 i0 _ 2 16 Try.underlying26 HI.out HZ0.out HZ1.out HZ2.out rfl (by omega) (.slice sa k sc) k (cells2 ((s.take k).map (shW j))) rfl (by with_reducible (repeat (first | exact HR.out | apply own_drewN | apply own_drew | apply World.ownsRow.alloc | (refine own_setCell ?_ (by first | (simp; done) | omega | (simp; omega)) _)))) (some ⟨wr.heap.size + 1, 0, none⟩) 1 1 [.int .i64 2, .int .i64 (wrap64 (p2 - 1))] rfl (srcAt_one (n := 1) (o := 2) (box_at _ #[.int .i64 2, .int .i64 (wrap64 (p2 - 1))] _ (by simp)) rfl) (by simp [Value.oneCell']) (by unfold maxLen; omega) (by omega) (by have := HB.out.size; simp; omega) ?_; intro v' w5 hown3 hgrow hloc)
            go_roundw
            case rel =>
              have o5 : w5.ownsRow W.heap.size 40 2 v' (k + 1) (cells2 ((s.take (k + 1)).map (shW j))) := by
                rw [HSN.out]
                have e : cells2 ((s.take k).map (shW j) ++ [(2, (wrap64 (p2 - 1)))]) = cells2 ((s.take k).map (shW j)) ++ [.int .i64 2, .int .i64 (wrap64 (p2 - 1))] := by simp [cells2]
                rw [e]; exact hown3
              have B5 : Below W.heap.size W w5 := Below.grown (by have := HB.out; exact (by with_reducible (repeat (first | (refine below_drewN ?_ _) | (refine Below.drew ?_) | (refine below_alloc ?_ (by first | omega | (simp; done) | (simp; omega)) _) | (refine Below.setCell ?_ (by first | omega | (simp; done) | (simp; omega)) _) | exact Below.refl _ _ | assumption | (refine below_call ?_ (by first | omega | (simp; done) | (simp; omega)) (by assumption)))))) hgrow (by have := HB.out.size; simp; omega) (fun i hi => (HR.out.lt i hi).1)
              exact ⟨k + 1, by omega, by go_num, o5, B5⟩
            case measure => simp [intOf]; omega
          · have hyv : y1 = p1 ∧ y2 = p2 := by
              have := HYY.out
              unfold shW at this
              rw [if_neg h2] at this
              injection this with e1 e2
              exact ⟨e1.symm, e2.symm⟩
            obtain ⟨rfl, rfl⟩ := hyv
            by_cases h4 : y1 = 2
            · subst h4
              have t3 : decide ((j:Int) < y2) = false := decide_eq_false (fun h => h2 ⟨rfl, h⟩)
              have t4 : ((2:Int) == 2) = true := by simp
              clear h2
              go_wp2_with (at_builtin; refine wpList_append_rd rfl _ _ _ rfl W.heap.size 40 i0 _ 2 16 Try.underlying26 HI.out HZ0.out HZ1.out HZ2.out rfl (by omega) (.slice sa k sc) k (cells2 ((s.take k).map (shW j))) rfl (by with_reducible (repeat (first | exact HR.out | apply own_drewN | apply own_drew | apply World.ownsRow.alloc | (refine own_setCell ?_ (by first | (simp; done) | omega | (simp; omega)) _)))) (some ⟨wr.heap.size + 1, 0, none⟩) 1 1 [.int .i64 2, .int .i64 y2] rfl (srcAt_one (n := 1) (o := 2) (box_at _ #[.int .i64 2, .int .i64 y2] _ (by simp)) rfl) (by simp [Value.oneCell']) (by unfold maxLen; omega) (by omega) (by have := HB.out.size; simp; omega) ?_; intro v' w5 hown3 hgrow hloc)
              go_roundw
              case rel =>
                have o5 : w5.ownsRow W.heap.size 40 2 v' (k + 1) (cells2 ((s.take (k + 1)).map (shW j))) := by
                  rw [HSN.out]
                  have e : cells2 ((s.take k).map (shW j) ++ [(2, y2)]) = cells2 ((s.take k).map (shW j)) ++ [.int .i64 2, .int .i64 y2] := by simp [cells2]
                  rw [e]; exact hown3
                have B5 : Below W.heap.size W w5 := Below.grown (by have := HB.out; exact (by with_reducible (repeat (first | (refine below_drewN ?_ _) | (refine Below.drew ?_) | (refine below_alloc ?_ (by first | omega | (simp; done) | (simp; omega)) _) | (refine Below.setCell ?_ (by first | omega | (simp; done) | (simp; omega)) _) | exact Below.refl _ _ | assumption | (refine below_call ?_ (by first | omega | (simp; done) | (simp; omega)) (by assumption)))))) hgrow (by have := HB.out.size; simp; omega) (fun i hi => (HR.out.lt i hi).1)
                exact ⟨k + 1, by omega, by go_num, o5, B5⟩
              case measure => simp [intOf]; omega
            · have t4 : (y1 == 2) = false := by simpa using h4
              clear h2
              go_wp2_with (at_builtin; refine wpList_append_rd rfl _ _ _ rfl W.heap.size 40 i0 _ 2 16 Try.underlying26 HI.out HZ0.out HZ1.out HZ2.out rfl (by omega) (.slice sa k sc) k (cells2 ((s.take k).map (shW j))) rfl (by with_reducible (repeat (first | exact HR.out | apply own_drewN | apply own_drew | apply World.ownsRow.alloc | (refine own_setCell ?_ (by first | (simp; done) | omega | (simp; omega)) _)))) (some ⟨wr.heap.size + 1, 0, none⟩) 1 1 [.int .i64 y1, .int .i64 y2] rfl (srcAt_one (n := 1) (o := 2) (box_at _ #[.int .i64 y1, .int .i64 y2] _ (by simp)) rfl) (by simp [Value.oneCell']) (by unfold maxLen; omega) (by omega) (by have := HB.out.size; simp; omega) ?_; intro v' w5 hown3 hgrow hloc)
              go_roundw
              case rel =>
                have o5 : w5.ownsRow W.heap.size 40 2 v' (k + 1) (cells2 ((s.take (k + 1)).map (shW j))) := by
                  rw [HSN.out]
                  have e : cells2 ((s.take k).map (shW j) ++ [(y1, y2)]) = cells2 ((s.take k).map (shW j)) ++ [.int .i64 y1, .int .i64 y2] := by simp [cells2]
                  rw [e]; exact hown3
                have B5 : Below W.heap.size W w5 := Below.grown (by have := HB.out; exact (by with_reducible (repeat (first | (refine below_drewN ?_ _) | (refine Below.drew ?_) | (refine below_alloc ?_ (by first | omega | (simp; done) | (simp; omega)) _) | (refine Below.setCell ?_ (by first | omega | (simp; done) | (simp; omega)) _) | exact Below.refl _ _ | assumption | (refine below_call ?_ (by first | omega | (simp; done) | (simp; omega)) (by assumption)))))) hgrow (by have := HB.out.size; simp; omega) (fun i hi => (HR.out.lt i hi).1)
                exact ⟨k + 1, by omega, by go_num, o5, B5⟩
              case measure => simp [intOf]; omega
        · obtain rfl : k = m := by omega
          have hsk : s.take k = s := List.take_of_length_le (by have := HMM.out; omega)
          have HPo : Hid (PairsAt wr (.slice sa k sc) (s.map (shW j))) := Lib.hid (by
            have h1 := HR.out
            rw [hsk] at h1
            have hl : (s.map (shW j)).length = k := by rw [List.length_map]; exact HMM.out
            have h2 : wr.ownsRow W.heap.size 40 2 (.slice sa k sc) (s.map (shW j)).length (cells2 (s.map (shW j))) := by rw [hl]; exact h1
            exact pairs_of_owns h2)
          clear hsk
          obtain ⟨b0, b1, f0, f1, hb0⟩ := box2 HLr.out.box
          rcases hq : stkOf n ls a s with _ | q
          · have HQ := Lib.hid hq
            clear hq
            go_wp2_with fail
            refine (iEndNo HQ.out HLr.out.tri HLr.out.prs).mono ?_
            rintro e w6 ⟨rfl, hb⟩
            have HL6 := Lib.hid (HLr.out.below hb)
            clear hb b0 b1 f0 f1 hb0
            go_wp2_with fail
            obtain ⟨I, φ, h0, hφ, hmk⟩ := famOf (w6).heap.size (w6)
            haveI : Nonempty I := h0.elim fun i _ => ⟨i⟩
            have H0 := Lib.hid h0; have HF := Lib.hid hφ; have HMK := Lib.hid hmk; have HBs : Hid ((w6).heap.size ≤ (w6).heap.size) := Lib.hid (Nat.le_refl _)
            clear h0 hφ hmk
            refine wp_region_fam φ H0.out (by kernel_rfl) (by kernel_rfl) ?_
            repeat (go_big_quiet_step (fail))
            refine wpQuiet_nil ?_
            intro _ hw'
            obtain ⟨nq, hw''⟩ := hw'
            subst hw''
            have hb := HF.out nq
            obtain ⟨w7, hw2⟩ : ∃ x, φ nq = x := ⟨_, rfl⟩
            rw [hw2] at hb ⊢
            clear hw2
            go_wp2_with fail
            go_ret
            exact ⟨rfl, (HL6.out.below hb).bw⟩
          · obtain ⟨r1, r2, r3⟩ := not_stk hq hjl HCV.out
            rw [HE.out, ← shW_all j hq] at r1 r2 r3
            obtain ⟨z, hz⟩ : ∃ z, lastN a q = z := ⟨_, rfl⟩
            obtain ⟨L, hL⟩ : ∃ L, stkPV n ls a s = L := ⟨_, rfl⟩
            obtain ⟨cc, hcc⟩ : ∃ cc, stkCost n ls a s = cc := ⟨_, rfl⟩
            rw [hL] at r2
            rw [hcc] at r3
            have HQ := Lib.hid hq; have HZ := Lib.hid hz; have HLL := Lib.hid hL; have HCC := Lib.hid hcc; have HR1 := Lib.hid r1; have HR2 := Lib.hid r2; have HR3 := Lib.hid r3
            have e3 : (cc == cc) = true := by simp
            clear hq hz hL hcc r1 r2 r3
            go_wp2_with fail
            refine (iEndYes HQ.out HZ.out HLr.out.tri HLr.out.prs).mono ?_
            rintro e w6 ⟨rfl, hb⟩
            have HL := Lib.hid (HLr.out.below hb)
            have HP := Lib.hid (HPo.out.below hb (Nat.le_refl _))
            have HX := Lib.hid (HXr.out.below hb HXr.out.lt)
            have HAA := Lib.hid (HAr.out.below hb (Nat.le_refl _))
            clear hb b0 b1 f0 f1 hb0 HLr HPo HXr HAr
            go_wp2_with fail
            replace HL := Lib.hid HL.out.drew
            replace HP := Lib.hid (HP.out.below (Below.refl _ _).drew (Nat.le_refl _))
            replace HAA := Lib.hid (HAA.out.below (Below.refl _ _).drew (Nat.le_refl _))
            replace HX := Lib.hid HX.out.drew
            obtain ⟨c0, c1, f0, f1, l0⟩ := box2 HL.out.box
            obtain ⟨g0, g1, h0, h1, k0⟩ := box2 HX.out
            refine wp_region_noPanic ?_
            refine wp_region_held_drew (S := (fun w' => w'.cell? ⟨w1.heap.size, 0, none⟩ = some (.int .i64 n) ∧ w'.cell? ⟨w1.heap.size, 1, none⟩ = some (.slice ua M uc) ∧ w'.cell? ⟨w4.heap.size, 0, none⟩ = some (.int .i64 n) ∧ w'.cell? ⟨w4.heap.size, 1, none⟩ = some (.slice A E.length ac))) (by kernel_rfl) (by ((try dsimp only); (first | go_keep | exact ⟨c0, c1, g0, g1⟩))) (fun hHeld => ?_)
            refine wpAnyH_take (i := 0) (oi := _) (v := ?_) rfl (by kernel_rfl) (by kernel_rfl) (by kernel_rfl) (fun _ _ _ h => h) (Or.inl ⟨by rfl, ?_⟩) (by assumption) ?_
            rotate_left
            focus (intro w hSw; (try dsimp only at hSw); go_simp; try (with_reducible rfl))
            try simp only [List.getElem_toArray, List.getElem_cons_zero, List.getElem_cons_succ, Act.put, List.setIfInBounds_toArray, List.set_cons_zero, List.set_cons_succ]
            refine wpAnyH_take (i := 1) (oi := _) (v := ?_) rfl (by kernel_rfl) (by kernel_rfl) (by kernel_rfl) (fun _ _ _ h => h) (Or.inl ⟨by rfl, ?_⟩) (by assumption) ?_
            rotate_left
            focus (intro w hSw; (try dsimp only at hSw); go_simp; try (with_reducible rfl))
            try simp only [List.getElem_toArray, List.getElem_cons_zero, List.getElem_cons_succ, Act.put, List.setIfInBounds_toArray, List.set_cons_zero, List.set_cons_succ]
            refine wpAnyH_take (i := 2) (oi := _) (v := ?_) rfl (by kernel_rfl) (by kernel_rfl) (by kernel_rfl) (fun _ _ _ h => h) (Or.inl ⟨by rfl, ?_⟩) (by assumption) ?_
            rotate_left
            focus (intro w hSw; (try dsimp only at hSw); go_simp; try (with_reducible rfl))
            try simp only [List.getElem_toArray, List.getElem_cons_zero, List.getElem_cons_succ, Act.put, List.setIfInBounds_toArray, List.set_cons_zero, List.set_cons_succ]
            refine wpAnyH_take (i := 3) (oi := _) (v := ?_) rfl (by kernel_rfl) (by kernel_rfl) (by kernel_rfl) (fun _ _ _ h => h) (Or.inl ⟨by rfl, ?_⟩) (by assumption) ?_
            rotate_left
            focus (intro w hSw; (try dsimp only at hSw); go_simp; try (with_reducible rfl))
            try simp only [List.getElem_toArray, List.getElem_cons_zero, List.getElem_cons_succ, Act.put, List.setIfInBounds_toArray, List.set_cons_zero, List.set_cons_succ]
            refine wpAnyH_take (i := 4) (oi := _) (v := ?_) rfl (by kernel_rfl) (by kernel_rfl) (by kernel_rfl) (fun _ _ _ h => h) (Or.inl ⟨by rfl, ?_⟩) (by assumption) ?_
            rotate_left
            focus (intro w hSw; (try dsimp only at hSw); go_simp; try (with_reducible rfl))
            try simp only [List.getElem_toArray, List.getElem_cons_zero, List.getElem_cons_succ, Act.put, List.setIfInBounds_toArray, List.set_cons_zero, List.set_cons_succ]
            refine wpAnyH_take (i := 5) (oi := _) (v := ?_) rfl (by kernel_rfl) (by kernel_rfl) (by kernel_rfl) (fun _ _ _ h => h) (Or.inl ⟨by rfl, ?_⟩) (by assumption) ?_
            rotate_left
            focus (intro w hSw; (try dsimp only at hSw); go_simp; try (with_reducible rfl))
            try simp only [List.getElem_toArray, List.getElem_cons_zero, List.getElem_cons_succ, Act.put, List.setIfInBounds_toArray, List.set_cons_zero, List.set_cons_succ]
            refine wpAnyH_take (i := 7) (oi := _) (v := ?_) rfl (by kernel_rfl) (by kernel_rfl) (by kernel_rfl) (fun _ _ _ h => h) (Or.inl ⟨by rfl, ?_⟩) (by assumption) ?_
            rotate_left
            focus (intro w hSw; (try dsimp only at hSw); go_simp; try (with_reducible rfl))
            try simp only [List.getElem_toArray, List.getElem_cons_zero, List.getElem_cons_succ, Act.put, List.setIfInBounds_toArray, List.set_cons_zero, List.set_cons_succ]
            refine wpAnyH_take (i := 8) (oi := _) (v := ?_) rfl (by kernel_rfl) (by kernel_rfl) (by kernel_rfl) (fun _ _ _ h => h) (Or.inl ⟨by rfl, ?_⟩) (by assumption) ?_
            rotate_left
            focus (intro w hSw; (try dsimp only at hSw); go_simp; try (with_reducible rfl))
            try simp only [List.getElem_toArray, List.getElem_cons_zero, List.getElem_cons_succ, Act.put, List.setIfInBounds_toArray, List.set_cons_zero, List.set_cons_succ]
            refine wpAnyH_take (i := 9) (oi := _) (v := ?_) rfl (by kernel_rfl) (by kernel_rfl) (by kernel_rfl) (fun _ _ _ h => h) (Or.inl ⟨by rfl, ?_⟩) (by assumption) ?_
            rotate_left
            focus (intro w hSw; (try dsimp only at hSw); go_simp; try (with_reducible rfl))
            try simp only [List.getElem_toArray, List.getElem_cons_zero, List.getElem_cons_succ, Act.put, List.setIfInBounds_toArray, List.set_cons_zero, List.set_cons_succ]
            refine wpAnyH_ready (rs := [6]) (by kernel_rfl) (by simp) ?_
            refine AllReadyH.cons (o := _) rfl (fun K hK => ?_) AllReadyH.nil
            go_simp
            (go_at_call 14; refine (iPathAny HR2.out HAA.out HP.out).mono ?_; rintro e w7 ⟨oA, oc, rfl, ho, hb⟩; have HO := Lib.hid ho; replace HL := Lib.hid (HL.out.below hb); replace HP := Lib.hid (HP.out.below hb (Nat.le_refl _)); replace HAA := Lib.hid (HAA.out.below hb (Nat.le_refl _)); replace HX := Lib.hid (HX.out.below hb HX.out.lt); clear hb c0 c1 f0 f1 l0 g0 g1 h0 h1 k0; obtain ⟨c0, c1, f0, f1, l0⟩ := box2 HL.out.box; obtain ⟨g0, g1, h0, h1, k0⟩ := box2 HX.out; clear ho)
            refine hK.out _ _ (by ((try dsimp only); (first | go_keep | exact ⟨c0, c1, g0, g1⟩))) (fun hHeld => ?_)
            clear hK K
            try simp only [List.getElem_toArray, List.getElem_cons_zero, List.getElem_cons_succ, Act.put, List.setIfInBounds_toArray, List.set_cons_zero, List.set_cons_succ]
            refine wpAnyH_ready (rs := [10]) (by kernel_rfl) (by simp) ?_
            refine AllReadyH.cons (o := _) rfl (fun K hK => ?_) AllReadyH.nil
            go_simp
            (go_at_call 14; refine (iPathAny HLL.out HL.out.tri HL.out.prs).mono ?_; rintro e w8 ⟨oB, od, rfl, ho, hb⟩; have HO2 := Lib.hid ho; replace HO := Lib.hid (HO.out.below hb (Nat.le_refl _)); replace HL := Lib.hid (HL.out.below hb); replace HP := Lib.hid (HP.out.below hb (Nat.le_refl _)); replace HAA := Lib.hid (HAA.out.below hb (Nat.le_refl _)); replace HX := Lib.hid (HX.out.below hb HX.out.lt); clear hb c0 c1 f0 f1 l0 g0 g1 h0 h1 k0; obtain ⟨c0, c1, f0, f1, l0⟩ := box2 HL.out.box; obtain ⟨g0, g1, h0, h1, k0⟩ := box2 HX.out; clear ho)
            refine hK.out _ _ (by ((try dsimp only); (first | go_keep | exact ⟨c0, c1, g0, g1⟩))) (fun hHeld => ?_)
            clear hK K
            try simp only [List.getElem_toArray, List.getElem_cons_zero, List.getElem_cons_succ, Act.put, List.setIfInBounds_toArray, List.set_cons_zero, List.set_cons_succ]
            refine wpAnyH_ready (rs := [11]) (by kernel_rfl) (by simp) ?_
            refine AllReadyH.cons (o := _) rfl (fun K hK => ?_) AllReadyH.nil
            go_simp
            (go_at_call 16; refine (sameInts_self HO.out HO2.out).mono ?_; rintro e w9 ⟨rfl, hb⟩; clear HO HO2; replace HL := Lib.hid (HL.out.below hb); replace HP := Lib.hid (HP.out.below hb (Nat.le_refl _)); replace HAA := Lib.hid (HAA.out.below hb (Nat.le_refl _)); replace HX := Lib.hid (HX.out.below hb HX.out.lt); clear hb c0 c1 f0 f1 l0 g0 g1 h0 h1 k0; obtain ⟨c0, c1, f0, f1, l0⟩ := box2 HL.out.box; obtain ⟨g0, g1, h0, h1, k0⟩ := box2 HX.out)
            refine hK.out _ _ (by ((try dsimp only); (first | go_keep | exact ⟨c0, c1, g0, g1⟩))) (fun hHeld => ?_)
            clear hK K
            try simp only [List.getElem_toArray, List.getElem_cons_zero, List.getElem_cons_succ, Act.put, List.setIfInBounds_toArray, List.set_cons_zero, List.set_cons_succ]
            refine wpAnyH_take (i := 12) (oi := _) (v := ?_) rfl (by kernel_rfl) (by kernel_rfl) (by kernel_rfl) (fun _ _ _ h => h) (Or.inl ⟨by rfl, ?_⟩) (by assumption) ?_
            rotate_left
            focus (intro w hSw; (try dsimp only at hSw); go_simp; try (with_reducible rfl))
            try simp only [List.getElem_toArray, List.getElem_cons_zero, List.getElem_cons_succ, Act.put, List.setIfInBounds_toArray, List.set_cons_zero, List.set_cons_succ]
            refine wpAnyH_take (i := 13) (oi := _) (v := ?_) rfl (by kernel_rfl) (by kernel_rfl) (by kernel_rfl) (fun _ _ _ h => h) (Or.inl ⟨by rfl, ?_⟩) (by assumption) ?_
            rotate_left
            focus (intro w hSw; (try dsimp only at hSw); go_simp; try (with_reducible rfl))
            try simp only [List.getElem_toArray, List.getElem_cons_zero, List.getElem_cons_succ, Act.put, List.setIfInBounds_toArray, List.set_cons_zero, List.set_cons_succ]
            refine wpAnyH_take (i := 14) (oi := _) (v := ?_) rfl (by kernel_rfl) (by kernel_rfl) (by kernel_rfl) (fun _ _ _ h => h) (Or.inl ⟨by rfl, ?_⟩) (by assumption) ?_
            rotate_left
            focus (intro w hSw; (try dsimp only at hSw); go_simp; try (with_reducible rfl))
            try simp only [List.getElem_toArray, List.getElem_cons_zero, List.getElem_cons_succ, Act.put, List.setIfInBounds_toArray, List.set_cons_zero, List.set_cons_succ]
            refine wpAnyH_take (i := 15) (oi := _) (v := ?_) rfl (by kernel_rfl) (by kernel_rfl) (by kernel_rfl) (fun _ _ _ h => h) (Or.inl ⟨by rfl, ?_⟩) (by assumption) ?_
            rotate_left
            focus (intro w hSw; (try dsimp only at hSw); go_simp; try (with_reducible rfl))
            try simp only [List.getElem_toArray, List.getElem_cons_zero, List.getElem_cons_succ, Act.put, List.setIfInBounds_toArray, List.set_cons_zero, List.set_cons_succ]
            refine wpAnyH_take (i := 17) (oi := _) (v := ?_) rfl (by kernel_rfl) (by kernel_rfl) (by kernel_rfl) (fun _ _ _ h => h) (Or.inl ⟨by rfl, ?_⟩) (by assumption) ?_
            rotate_left
            focus (intro w hSw; (try dsimp only at hSw); go_simp; try (with_reducible rfl))
            try simp only [List.getElem_toArray, List.getElem_cons_zero, List.getElem_cons_succ, Act.put, List.setIfInBounds_toArray, List.set_cons_zero, List.set_cons_succ]
            refine wpAnyH_take (i := 18) (oi := _) (v := ?_) rfl (by kernel_rfl) (by kernel_rfl) (by kernel_rfl) (fun _ _ _ h => h) (Or.inl ⟨by rfl, ?_⟩) (by assumption) ?_
            rotate_left
            focus (intro w hSw; (try dsimp only at hSw); go_simp; try (with_reducible rfl))
            try simp only [List.getElem_toArray, List.getElem_cons_zero, List.getElem_cons_succ, Act.put, List.setIfInBounds_toArray, List.set_cons_zero, List.set_cons_succ]
            refine wpAnyH_take (i := 19) (oi := _) (v := ?_) rfl (by kernel_rfl) (by kernel_rfl) (by kernel_rfl) (fun _ _ _ h => h) (Or.inl ⟨by rfl, ?_⟩) (by assumption) ?_
            rotate_left
            focus (intro w hSw; (try dsimp only at hSw); go_simp; try (with_reducible rfl))
            try simp only [List.getElem_toArray, List.getElem_cons_zero, List.getElem_cons_succ, Act.put, List.setIfInBounds_toArray, List.set_cons_zero, List.set_cons_succ]
            refine wpAnyH_ready (rs := [16]) (by kernel_rfl) (by simp) ?_
            refine AllReadyH.cons (o := _) rfl (fun K hK => ?_) AllReadyH.nil
            go_simp
            (go_at_call 19; refine (iCostYes HR1.out HR3.out HAA.out HP.out).mono ?_; rintro e w10 ⟨rfl, hb⟩; replace HL := Lib.hid (HL.out.below hb); replace HP := Lib.hid (HP.out.below hb (Nat.le_refl _)); replace HAA := Lib.hid (HAA.out.below hb (Nat.le_refl _)); replace HX := Lib.hid (HX.out.below hb HX.out.lt); clear hb c0 c1 f0 f1 l0 g0 g1 h0 h1 k0; obtain ⟨c0, c1, f0, f1, l0⟩ := box2 HL.out.box; obtain ⟨g0, g1, h0, h1, k0⟩ := box2 HX.out)
            refine hK.out _ _ (by ((try dsimp only); (first | go_keep | exact ⟨c0, c1, g0, g1⟩))) (fun hHeld => ?_)
            clear hK K
            try simp only [List.getElem_toArray, List.getElem_cons_zero, List.getElem_cons_succ, Act.put, List.setIfInBounds_toArray, List.set_cons_zero, List.set_cons_succ]
            refine wpAnyH_ready (rs := [20]) (by kernel_rfl) (by simp) ?_
            refine AllReadyH.cons (o := _) rfl (fun K hK => ?_) AllReadyH.nil
            go_simp
            (go_at_call 19; refine (iCostYes HQ.out HCC.out HL.out.tri HL.out.prs).mono ?_; rintro e w11 ⟨rfl, hb⟩; replace HL := Lib.hid (HL.out.below hb); replace HP := Lib.hid (HP.out.below hb (Nat.le_refl _)); replace HAA := Lib.hid (HAA.out.below hb (Nat.le_refl _)); replace HX := Lib.hid (HX.out.below hb HX.out.lt); clear hb c0 c1 f0 f1 l0 g0 g1 h0 h1 k0; obtain ⟨c0, c1, f0, f1, l0⟩ := box2 HL.out.box; obtain ⟨g0, g1, h0, h1, k0⟩ := box2 HX.out)
            refine hK.out _ _ (by ((try dsimp only); (first | go_keep | exact ⟨c0, c1, g0, g1⟩))) (fun hHeld => ?_)
            clear hK K
            try simp only [List.getElem_toArray, List.getElem_cons_zero, List.getElem_cons_succ, Act.put, List.setIfInBounds_toArray, List.set_cons_zero, List.set_cons_succ]
            refine wpAnyH_take (i := 21) (oi := _) (v := ?_) rfl (by kernel_rfl) (by kernel_rfl) (by kernel_rfl) (fun _ _ _ h => h) (Or.inl ⟨by rfl, ?_⟩) (by assumption) ?_
            rotate_left
            focus (intro w hSw; (try dsimp only at hSw); go_simp; try (with_reducible rfl))
            try simp only [List.getElem_toArray, List.getElem_cons_zero, List.getElem_cons_succ, Act.put, List.setIfInBounds_toArray, List.set_cons_zero, List.set_cons_succ]
            refine wpAnyH_take (i := 22) (oi := _) (v := ?_) rfl (by kernel_rfl) (by kernel_rfl) (by kernel_rfl) (fun _ _ _ h => h) (Or.inl ⟨by rfl, ?_⟩) (by assumption) ?_
            rotate_left
            focus (intro w hSw; (try dsimp only at hSw); go_simp; try (with_reducible rfl))
            try simp only [List.getElem_toArray, List.getElem_cons_zero, List.getElem_cons_succ, Act.put, List.setIfInBounds_toArray, List.set_cons_zero, List.set_cons_succ]
            refine wpAnyH_take (i := 23) (oi := _) (v := ?_) rfl (by kernel_rfl) (by kernel_rfl) (by kernel_rfl) (fun _ _ _ h => h) (Or.inl ⟨by rfl, ?_⟩) (by assumption) ?_
            rotate_left
            focus (intro w hSw; (try dsimp only at hSw); go_simp; try (with_reducible rfl))
            try simp only [List.getElem_toArray, List.getElem_cons_zero, List.getElem_cons_succ, Act.put, List.setIfInBounds_toArray, List.set_cons_zero, List.set_cons_succ]
            refine wpAnyH_take (i := 24) (oi := _) (v := ?_) rfl (by kernel_rfl) (by kernel_rfl) (by kernel_rfl) (fun _ _ _ h => h) (Or.inl ⟨by rfl, ?_⟩) (by assumption) ?_
            rotate_left
            focus (intro w hSw; (try dsimp only at hSw); go_simp; try (with_reducible rfl))
            try simp only [List.getElem_toArray, List.getElem_cons_zero, List.getElem_cons_succ, Act.put, List.setIfInBounds_toArray, List.set_cons_zero, List.set_cons_succ]
            refine wpAnyH_done (by kernel_rfl) ?_ _
            refine NoPanic.normal ?_
            go_wp2_with fail
            go_ret
            exact ⟨rfl, HL.out.bw⟩
theorem own : ownKnob Try.prog.godebug = none := by kernel_rfl
theorem laidOut : laidOutB Try.prog = true := by kernel_rfl
set_option maxRecDepth 100000 in
theorem lifted (os : Os) (started : os.Started) (H : Type) (enc : TypeId × Value → H) :
    ReturnsInHanded {} Try.checked os 12 .any (Rows.fnStackNotSpec.pre6 enc Try.prog Try.f12 Rows.fnStackNotRow.domain false) (Rows.fnStackNotSpec.post enc Try.prog Try.f12 false true false false) := by
  refine returnsInHanded_of_change (C := Try.checked) own started (by kernel_rfl) Try.func12
    (ChangeSpec.witness6 (enc := enc) (C := Try.checked) false ⟨#[], #[.slice none 0 0], []⟩ 8 (by kernel_rfl) (by kernel_rfl) (by kernel_rfl) (by kernel_rfl)) ?_
  intro W base args ds gs before hval0 hW hcnd _
  have hval : ∀ (j : Nat) t v, Try.f12.params[j]? = some t → args[j]? = some v → Value.okWide Try.prog W .any base t v := hval0
  have hW' := hW
  obtain ⟨p, q, hA0, hV, rfl, hfz, hnd⟩ := hW
  have hA : DataW.TrodAll enc Try.prog W 0 (fun _ => true) true Try.f12.params.toList args.toList ds p := hA0
  rw [Try.params12] at hA hval
  obtain ⟨v0, vs0, d0, ds0, p0, q0, hargs, rfl, rfl, h0, r0⟩ := trodAll_cons hA
  obtain ⟨rfl, rfl, rfl⟩ := trodAll_nil r0
  obtain rfl : args = #[v0] := by cases args; simp_all
  obtain ⟨rfl, rfl⟩ := trodVars_none hV
  have k0 := h0
  have lt0 : ∀ x ∈ p0, x.block < W.heap.size := by obtain ⟨m, hm⟩ := k0; exact DataW.trod_lt m _ _ _ hm
  have w0 : CodeAt W v0 := codeAt_of_trod (T := 22) (E := 5) Try.underlying22 Try.underlying5 (by kernel_rfl) (hval 0 22 v0 rfl rfl) h0
  clear hA0 hval0
  refine (walk v0 W w0).mono fun e W' ⟨he, bel⟩ => ?_
  subst he
  exact ⟨_, rfl, _, _, _, [], _, [], hW', trodAll_mk1 (shut_bool Try.underlying4 _), (trodAll_cons_mk (Below.trod laidOut (by kernel_rfl) (of_decide_eq_true (by kernel_rfl)) k0 bel lt0) trodAll_mk0), rfl, bel.frame _, fun h => by cases h⟩
theorem over : Rows.fnStackNotRow.holds Try.pinned (OpenSpec.ofChange Rows.fnStackNotSpec) :=
  OpenClaim.holds_of_wide 12 Try.f12 rfl rfl rfl rfl rfl rfl rfl ⟨rfl, rfl, rfl, rfl, rfl⟩ rfl rfl rfl rfl rfl (by kernel_rfl) Try.func12 (by kernel_rfl)
    (of_decide_eq_true (by kernel_rfl)) (by unfold Func.isWrapper; first | (rw [if_pos (by decide +kernel)]; kernel_rfl) | (rw [if_neg (by decide +kernel)]; exact ⟨rfl, rfl⟩))
    (fun os started H enc _ => lifted os started H enc)
end Go.Proofs.Ytkegainegkdgpaa.lawFnStackNot
namespace Go.Proofs.Ytkegainegkdgpaa
set_option linter.unusedSimpArgs false
set_option linter.unusedVariables false
/-- The statement. -/
theorem FnStackNot_proved : Rows.FnStackNotSaid := lawFnStackNot.over
#print axioms FnStackNot_proved
end Go.Proofs.Ytkegainegkdgpaa
