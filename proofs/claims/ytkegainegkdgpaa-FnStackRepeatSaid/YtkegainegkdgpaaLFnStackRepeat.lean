/- FnStackRepeat: for every input the call returns true, and the argument reads afterwards as before. No condition. -/
import Derived.Test.YtkegainegkdgpaaLwH
import Derived.Test.YtkegainegkdgpaaRows
import Derived.Test.YtkegainegkdgpaaOpen
import Derived.ProofKit
import Derived.OpenShut
import Derived.ShutString
import Derived.ChangeOld
import Derived.Lib.SmallJoins
namespace Go.Proofs.Ytkegainegkdgpaa.lawFnStackRepeat
set_option linter.unusedSimpArgs false
set_option linter.unusedVariables false
open Go.ChangeShapes Go.WideShapes Go.ChangeAt Go.RowKit Go.Joins
set_option maxRecDepth 100000 in
set_option maxHeartbeats 4000000 in
theorem walk (v : Value) (w : World) (h : CodeAt w v) :
    Calls Try.prog 6 #[v] w fun e w' => e = .returned (.bool true) ∧ Below w.heap.size w w' := by
  obtain ⟨a0, n0, cap0, b0, off0, rfl, hcap0, hmax0, ha0, hc0⟩ := id h
  unfold maxLen at hmax0
  clear ha0 hc0
  have H := Lib.hid h
  obtain ⟨i0, hi, hz0, hz1, hz2⟩ := info_parts infoLab
  have HI := Lib.hid hi; have HZ0 := Lib.hid hz0; have HZ1 := Lib.hid hz1; have HZ2 := Lib.hid hz2
  clear hi hz0 hz1 hz2
  clear h
  by_cases hn : 1048576 < n0
  · go_enter Try.func6, Try.ntmps6
    go_wp2
    go_ret
    exact ⟨rfl, Below.refl _ _⟩
  go_enter Try.func6, Try.ntmps6
  go_wp2_with fail
  refine (drawSE _ _ H.out).mono ?_
  rintro e w1 ⟨⟨n, u, ls, a, x, s, rfl, hls, hT, hs, hP, _, _⟩, hb⟩
  have L1 : LwS w w1.heap.size n u ls x s (w1.alloc (.cells #[.int .i64 n, u] 25)) := LwS.new hb hT hP
  obtain ⟨ua, uc, rfl, hul, hum⟩ := hT.form2
  obtain ⟨xa, xc, rfl, hxl, hxm⟩ := hP.form2
  unfold maxLen at hum hxm
  have HL := Lib.hid L1
  clear hb L1 hT hP
  rcases hq : stkOf n ls a s with _ | q
  · have HQ := Lib.hid hq
    clear hq
    go_wp2_with fail
    refine (iEndNo HQ.out HL.out.tri HL.out.prs).mono ?_
    rintro e w2 ⟨rfl, hb⟩
    replace HL := Lib.hid (HL.out.below hb)
    obtain ⟨c0, c1, f0, f1, l0⟩ := box2 HL.out.box
    clear hb
    go_wp2_with fail
    refine (sEndNo HQ.out HL.out.tri HL.out.prs).mono ?_
    rintro e w3 ⟨rfl, hb⟩
    replace HL := Lib.hid (HL.out.below hb)
    clear hb c0 c1 f0 f1 l0
    go_wp2_with fail
    go_ret
    exact ⟨rfl, HL.out.bw⟩
  · have HQ := Lib.hid hq
    obtain ⟨z, hz⟩ : ∃ z, lastN a q = z := ⟨_, rfl⟩
    have HZ := Lib.hid hz
    have hs8 : s.length ≤ 8 := (stkOf_some hq).len
    have e1 : (z != z) = false := by simp
    have e2 : (z == z) = true := by simp
    clear hq hz
    go_wp2_with fail
    refine (iEndYes HQ.out HZ.out HL.out.tri HL.out.prs).mono ?_
    rintro e w2 ⟨rfl, hb⟩
    replace HL := Lib.hid (HL.out.below hb)
    obtain ⟨c0, c1, f0, f1, l0⟩ := box2 HL.out.box
    clear hb
    go_wp2_with fail
    refine (sEndYes HQ.out HZ.out HL.out.tri HL.out.prs).mono ?_
    rintro e w3 ⟨rfl, hb⟩
    replace HL := Lib.hid (HL.out.below hb)
    clear hb c0 c1 f0 f1 l0
    by_cases hs7 : s.length = 8
    · have t0 : ((s.length:Int) == 8) = true := by rw [beq_iff_eq]; omega
      have HS7 := Lib.hid hs7
      clear hs7
      go_wp2_with fail
      go_ret
      exact ⟨rfl, HL.out.bw⟩
    have t0 : ((s.length:Int) == 8) = false := by rw [beq_eq_false_iff_ne]; omega
    obtain ⟨r1, r2, r3⟩ := stk_repeat HQ.out (by omega)
    rw [HZ.out] at r1 r2 r3
    obtain ⟨L, hL⟩ : ∃ L, stkPV n ls a s = L := ⟨_, rfl⟩
    obtain ⟨cc, hcc⟩ : ∃ cc, stkCost n ls a s = cc := ⟨_, rfl⟩
    rw [hL] at r2
    rw [hcc] at r3
    have HLL := Lib.hid hL; have HCC := Lib.hid hcc; have HR1 := Lib.hid r1; have HR2 := Lib.hid r2; have HR3 := Lib.hid r3
    have e3 : (cc == cc) = true := by simp
    clear hL hcc r1 r2 r3
    obtain ⟨A', m', c', ee1, ee2, hsrc⟩ := srcAt_pairs HL.out.prs
    injection ee1 with q1 q2 q3
    subst q1
    subst q3
    have HSRC : Hid (SrcAt w3 xa s.length 2 (cells2 s)) := Lib.hid (by rw [ee2] at hsrc; exact hsrc)
    clear ee2 q2 hsrc
    obtain ⟨c0, c1, f0, f1, l0⟩ := box2 HL.out.box
    go_upto_region 8 with fail
    go_cut [10] (fun s10 wc => ∃ A c, s10 = .slice A (s.length + 1) c ∧ PairsAt wc (.slice A (s.length + 1) c) (s ++ [(1, z)]) ∧ LwS w w1.heap.size n (.slice ua ls.length uc) ls (.slice xa s.length xc) s wc)
    case first =>
      have HO0 : Hid ((w3.alloc (.cells #[] 40)).ownsRow w3.heap.size 40 2 (.slice (some ⟨w3.heap.size, 0, none⟩) 0 0) 0 []) := Lib.hid (own_new rfl (Nat.le_refl _))
      go_wp2_with (first
        | (at_builtin; have _t := hown5; refine wpList_append_rd rfl _ _ _ rfl w3.heap.size 40 i0 _ 2 16 Try.underlying26 HI.out HZ0.out HZ1.out HZ2.out rfl (by omega) v5 (0 + s.length) ([] ++ cells2 s) rfl (hown5.alloc _) (some ⟨w5.heap.size, 0, none⟩) 1 1 [.int .i64 1, .int .i64 z] rfl (srcAt_one (n := 1) (o := 2) (box_new _ #[.int .i64 1, .int .i64 z] _) rfl) (by simp [Value.oneCell']) (by unfold maxLen; omega) (by omega) (by have := B5.size; simp; omega) ?_; intro v6 w6 hown6 hgrow6 hloc6)
        | (at_builtin; refine wpList_append_rd rfl _ _ _ rfl w3.heap.size 40 i0 _ 2 16 Try.underlying26 HI.out HZ0.out HZ1.out HZ2.out rfl (by omega) (.slice (some ⟨w3.heap.size, 0, none⟩) 0 0) 0 [] rfl HO0.out xa s.length xc (cells2 s) rfl (HSRC.out.below ((Below.refl _ _).alloc (Nat.le_refl _) _) (Nat.le_refl _)) (cells2_one s) (by unfold maxLen; omega) (by omega) (by simp) ?_; intro v5 w5 hown5 hgrow5 hloc5; have B5 : Below w3.heap.size w3 w5 := Below.grown ((Below.refl _ _).alloc (Nat.le_refl _) _) hgrow5 (by simp) (fun j hj => by simp [Value.ownBlock] at hj; omega)))
      go_meet
      have B6 : Below w3.heap.size w3 w6 := Below.grown (B5.alloc B5.size _) hgrow6 (by have := B5.size; simp; omega) (fun j hj => (hown5.lt j hj).1)
      have o6 : w6.ownsRow w3.heap.size 40 2 v6 (s ++ [((1:Int), z)]).length (cells2 (s ++ [((1:Int), z)])) := by simpa [cells2_snoc] using hown6
      have hp := pairs_of_owns o6
      obtain ⟨A, c, rfl⟩ := own_slice o6
      rw [List.length_append] at hp ⊢
      exact ⟨A, c, rfl, hp, HL.out.below B6⟩
    case rest =>
      obtain ⟨A, c, rfl, hp, hl⟩ := hcut
      clear HL HSRC c0 c1 f0 f1 l0
      have HL := Lib.hid hl
      have HP := Lib.hid hp
      clear hl hp
      go_wp2_with fail
      replace HL := Lib.hid HL.out.drew
      replace HP := Lib.hid (HP.out.below (Below.refl _ _).drew (Nat.le_refl _))
      obtain ⟨c0, c1, f0, f1, l0⟩ := box2 HL.out.box
      refine wp_region_noPanic ?_
      refine wp_region_held_drew (S := (fun w' => w'.cell? ⟨w1.heap.size, 0, none⟩ = some (.int .i64 n) ∧ w'.cell? ⟨w1.heap.size, 1, none⟩ = some (.slice ua ls.length uc))) (by kernel_rfl) (by ((try dsimp only); (first | go_keep | exact ⟨c0, c1⟩))) (fun hHeld => ?_)
      refine wpAnyH_take (i := 0) (oi := _) (v := ?_) rfl (by kernel_rfl) (by kernel_rfl) (by kernel_rfl) (fun _ _ _ h => h) (Or.inl ⟨by rfl, ?_⟩) (by assumption) ?_
      rotate_left
      focus (intro w hSw; (try dsimp only at hSw); go_simp; try (with_reducible rfl))
      try simp only [List.getElem_toArray, List.getElem_cons_zero, List.getElem_cons_succ, Act.put, List.setIfInBounds_toArray, List.set_cons_zero, List.set_cons_succ]
      refine wpAnyH_take (i := 1) (oi := _) (v := ?_) rfl (by kernel_rfl) (by kernel_rfl) (by kernel_rfl) (fun _ _ _ h => h) (Or.inl ⟨by rfl, ?_⟩) (by assumption) ?_
      rotate_left
      focus (intro w hSw; (try dsimp only at hSw); go_simp; try (with_reducible rfl))
      try simp only [List.getElem_toArray, List.getElem_cons_zero, List.getElem_cons_succ, Act.put, List.setIfInBounds_toArray, List.set_cons_zero, List.set_cons_succ]
      refine wpAnyH_take (i := 2) (oi := _) (v := ?_) rfl (by kernel_rfl) (by kernel_rfl) (by kernel_rfl) (fun _ _ _ h => h) (Or.inl ⟨by rfl, ?_⟩) (by assumption) ?_
      rotate_left
      focus (intro w hSw; (try dsimp only at hSw); go_simp; try (with_reducible rfl))
      try simp only [List.getElem_toArray, List.getElem_cons_zero, List.getElem_cons_succ, Act.put, List.setIfInBounds_toArray, List.set_cons_zero, List.set_cons_succ]
      refine wpAnyH_take (i := 4) (oi := _) (v := ?_) rfl (by kernel_rfl) (by kernel_rfl) (by kernel_rfl) (fun _ _ _ h => h) (Or.inl ⟨by rfl, ?_⟩) (by assumption) ?_
      rotate_left
      focus (intro w hSw; (try dsimp only at hSw); go_simp; try (with_reducible rfl))
      try simp only [List.getElem_toArray, List.getElem_cons_zero, List.getElem_cons_succ, Act.put, List.setIfInBounds_toArray, List.set_cons_zero, List.set_cons_succ]
      refine wpAnyH_take (i := 5) (oi := _) (v := ?_) rfl (by kernel_rfl) (by kernel_rfl) (by kernel_rfl) (fun _ _ _ h => h) (Or.inl ⟨by rfl, ?_⟩) (by assumption) ?_
      rotate_left
      focus (intro w hSw; (try dsimp only at hSw); go_simp; try (with_reducible rfl))
      try simp only [List.getElem_toArray, List.getElem_cons_zero, List.getElem_cons_succ, Act.put, List.setIfInBounds_toArray, List.set_cons_zero, List.set_cons_succ]
      refine wpAnyH_take (i := 6) (oi := _) (v := ?_) rfl (by kernel_rfl) (by kernel_rfl) (by kernel_rfl) (fun _ _ _ h => h) (Or.inl ⟨by rfl, ?_⟩) (by assumption) ?_
      rotate_left
      focus (intro w hSw; (try dsimp only at hSw); go_simp; try (with_reducible rfl))
      try simp only [List.getElem_toArray, List.getElem_cons_zero, List.getElem_cons_succ, Act.put, List.setIfInBounds_toArray, List.set_cons_zero, List.set_cons_succ]
      refine wpAnyH_ready (rs := [3]) (by kernel_rfl) (by simp) ?_
      refine AllReadyH.cons (o := _) rfl (fun K hK => ?_) AllReadyH.nil
      go_simp
      (go_at_call 14; refine (iPathAny HR2.out HL.out.tri HP.out).mono ?_; rintro e w4 ⟨oA, oc, rfl, ho, hb⟩; have HO := Lib.hid ho; replace HL := Lib.hid (HL.out.below hb); replace HP := Lib.hid (HP.out.below hb (Nat.le_refl _)); clear hb ho c0 c1 f0 f1 l0; obtain ⟨c0, c1, f0, f1, l0⟩ := box2 HL.out.box)
      refine hK.out _ _ (by ((try dsimp only); (first | go_keep | exact ⟨c0, c1⟩))) (fun hHeld => ?_)
      clear hK K
      try simp only [List.getElem_toArray, List.getElem_cons_zero, List.getElem_cons_succ, Act.put, List.setIfInBounds_toArray, List.set_cons_zero, List.set_cons_succ]
      refine wpAnyH_ready (rs := [7]) (by kernel_rfl) (by simp) ?_
      refine AllReadyH.cons (o := _) rfl (fun K hK => ?_) AllReadyH.nil
      go_simp
      (go_at_call 14; refine (iPathAny HLL.out HL.out.tri HL.out.prs).mono ?_; rintro e w5 ⟨oB, od, rfl, ho, hb⟩; have HO2 := Lib.hid ho; replace HO := Lib.hid (HO.out.below hb (Nat.le_refl _)); replace HL := Lib.hid (HL.out.below hb); replace HP := Lib.hid (HP.out.below hb (Nat.le_refl _)); clear hb ho c0 c1 f0 f1 l0; obtain ⟨c0, c1, f0, f1, l0⟩ := box2 HL.out.box)
      refine hK.out _ _ (by ((try dsimp only); (first | go_keep | exact ⟨c0, c1⟩))) (fun hHeld => ?_)
      clear hK K
      try simp only [List.getElem_toArray, List.getElem_cons_zero, List.getElem_cons_succ, Act.put, List.setIfInBounds_toArray, List.set_cons_zero, List.set_cons_succ]
      refine wpAnyH_ready (rs := [8]) (by kernel_rfl) (by simp) ?_
      refine AllReadyH.cons (o := _) rfl (fun K hK => ?_) AllReadyH.nil
      go_simp
      (go_at_call 16; refine (sameInts_self HO.out HO2.out).mono ?_; rintro e w6 ⟨rfl, hb⟩; replace HL := Lib.hid (HL.out.below hb); replace HP := Lib.hid (HP.out.below hb (Nat.le_refl _)); clear hb HO HO2 c0 c1 f0 f1 l0; obtain ⟨c0, c1, f0, f1, l0⟩ := box2 HL.out.box)
      refine hK.out _ _ (by ((try dsimp only); (first | go_keep | exact ⟨c0, c1⟩))) (fun hHeld => ?_)
      clear hK K
      try simp only [List.getElem_toArray, List.getElem_cons_zero, List.getElem_cons_succ, Act.put, List.setIfInBounds_toArray, List.set_cons_zero, List.set_cons_succ]
      refine wpAnyH_take (i := 9) (oi := _) (v := ?_) rfl (by kernel_rfl) (by kernel_rfl) (by kernel_rfl) (fun _ _ _ h => h) (Or.inl ⟨by rfl, ?_⟩) (by assumption) ?_
      rotate_left
      focus (intro w hSw; (try dsimp only at hSw); go_simp; try (with_reducible rfl))
      try simp only [List.getElem_toArray, List.getElem_cons_zero, List.getElem_cons_succ, Act.put, List.setIfInBounds_toArray, List.set_cons_zero, List.set_cons_succ]
      refine wpAnyH_take (i := 10) (oi := _) (v := ?_) rfl (by kernel_rfl) (by kernel_rfl) (by kernel_rfl) (fun _ _ _ h => h) (Or.inl ⟨by rfl, ?_⟩) (by assumption) ?_
      rotate_left
      focus (intro w hSw; (try dsimp only at hSw); go_simp; try (with_reducible rfl))
      try simp only [List.getElem_toArray, List.getElem_cons_zero, List.getElem_cons_succ, Act.put, List.setIfInBounds_toArray, List.set_cons_zero, List.set_cons_succ]
      refine wpAnyH_take (i := 11) (oi := _) (v := ?_) rfl (by kernel_rfl) (by kernel_rfl) (by kernel_rfl) (fun _ _ _ h => h) (Or.inl ⟨by rfl, ?_⟩) (by assumption) ?_
      rotate_left
      focus (intro w hSw; (try dsimp only at hSw); go_simp; try (with_reducible rfl))
      try simp only [List.getElem_toArray, List.getElem_cons_zero, List.getElem_cons_succ, Act.put, List.setIfInBounds_toArray, List.set_cons_zero, List.set_cons_succ]
      refine wpAnyH_take (i := 12) (oi := _) (v := ?_) rfl (by kernel_rfl) (by kernel_rfl) (by kernel_rfl) (fun _ _ _ h => h) (Or.inl ⟨by rfl, ?_⟩) (by assumption) ?_
      rotate_left
      focus (intro w hSw; (try dsimp only at hSw); go_simp; try (with_reducible rfl))
      try simp only [List.getElem_toArray, List.getElem_cons_zero, List.getElem_cons_succ, Act.put, List.setIfInBounds_toArray, List.set_cons_zero, List.set_cons_succ]
      refine wpAnyH_take (i := 14) (oi := _) (v := ?_) rfl (by kernel_rfl) (by kernel_rfl) (by kernel_rfl) (fun _ _ _ h => h) (Or.inl ⟨by rfl, ?_⟩) (by assumption) ?_
      rotate_left
      focus (intro w hSw; (try dsimp only at hSw); go_simp; try (with_reducible rfl))
      try simp only [List.getElem_toArray, List.getElem_cons_zero, List.getElem_cons_succ, Act.put, List.setIfInBounds_toArray, List.set_cons_zero, List.set_cons_succ]
      refine wpAnyH_take (i := 15) (oi := _) (v := ?_) rfl (by kernel_rfl) (by kernel_rfl) (by kernel_rfl) (fun _ _ _ h => h) (Or.inl ⟨by rfl, ?_⟩) (by assumption) ?_
      rotate_left
      focus (intro w hSw; (try dsimp only at hSw); go_simp; try (with_reducible rfl))
      try simp only [List.getElem_toArray, List.getElem_cons_zero, List.getElem_cons_succ, Act.put, List.setIfInBounds_toArray, List.set_cons_zero, List.set_cons_succ]
      refine wpAnyH_take (i := 16) (oi := _) (v := ?_) rfl (by kernel_rfl) (by kernel_rfl) (by kernel_rfl) (fun _ _ _ h => h) (Or.inl ⟨by rfl, ?_⟩) (by assumption) ?_
      rotate_left
      focus (intro w hSw; (try dsimp only at hSw); go_simp; try (with_reducible rfl))
      try simp only [List.getElem_toArray, List.getElem_cons_zero, List.getElem_cons_succ, Act.put, List.setIfInBounds_toArray, List.set_cons_zero, List.set_cons_succ]
      refine wpAnyH_ready (rs := [13]) (by kernel_rfl) (by simp) ?_
      refine AllReadyH.cons (o := _) rfl (fun K hK => ?_) AllReadyH.nil
      go_simp
      (go_at_call 19; refine (iCostYes HR1.out HR3.out HL.out.tri HP.out).mono ?_; rintro e w7 ⟨rfl, hb⟩; replace HL := Lib.hid (HL.out.below hb); clear hb HP c0 c1 f0 f1 l0; obtain ⟨c0, c1, f0, f1, l0⟩ := box2 HL.out.box)
      refine hK.out _ _ (by ((try dsimp only); (first | go_keep | exact ⟨c0, c1⟩))) (fun hHeld => ?_)
      clear hK K
      try simp only [List.getElem_toArray, List.getElem_cons_zero, List.getElem_cons_succ, Act.put, List.setIfInBounds_toArray, List.set_cons_zero, List.set_cons_succ]
      refine wpAnyH_ready (rs := [17]) (by kernel_rfl) (by simp) ?_
      refine AllReadyH.cons (o := _) rfl (fun K hK => ?_) AllReadyH.nil
      go_simp
      (go_at_call 19; refine (iCostYes HQ.out HCC.out HL.out.tri HL.out.prs).mono ?_; rintro e w8 ⟨rfl, hb⟩; replace HL := Lib.hid (HL.out.below hb); clear hb c0 c1 f0 f1 l0; obtain ⟨c0, c1, f0, f1, l0⟩ := box2 HL.out.box)
      refine hK.out _ _ (by ((try dsimp only); (first | go_keep | exact ⟨c0, c1⟩))) (fun hHeld => ?_)
      clear hK K
      try simp only [List.getElem_toArray, List.getElem_cons_zero, List.getElem_cons_succ, Act.put, List.setIfInBounds_toArray, List.set_cons_zero, List.set_cons_succ]
      refine wpAnyH_take (i := 18) (oi := _) (v := ?_) rfl (by kernel_rfl) (by kernel_rfl) (by kernel_rfl) (fun _ _ _ h => h) (Or.inl ⟨by rfl, ?_⟩) (by assumption) ?_
      rotate_left
      focus (intro w hSw; (try dsimp only at hSw); go_simp; try (with_reducible rfl))
      try simp only [List.getElem_toArray, List.getElem_cons_zero, List.getElem_cons_succ, Act.put, List.setIfInBounds_toArray, List.set_cons_zero, List.set_cons_succ]
      refine wpAnyH_take (i := 19) (oi := _) (v := ?_) rfl (by kernel_rfl) (by kernel_rfl) (by kernel_rfl) (fun _ _ _ h => h) (Or.inl ⟨by rfl, ?_⟩) (by assumption) ?_
      rotate_left
      focus (intro w hSw; (try dsimp only at hSw); go_simp; try (with_reducible rfl))
      try simp only [List.getElem_toArray, List.getElem_cons_zero, List.getElem_cons_succ, Act.put, List.setIfInBounds_toArray, List.set_cons_zero, List.set_cons_succ]
      refine wpAnyH_take (i := 20) (oi := _) (v := ?_) rfl (by kernel_rfl) (by kernel_rfl) (by kernel_rfl) (fun _ _ _ h => h) (Or.inl ⟨by rfl, ?_⟩) (by assumption) ?_
      rotate_left
      focus (intro w hSw; (try dsimp only at hSw); go_simp; try (with_reducible rfl))
      try simp only [List.getElem_toArray, List.getElem_cons_zero, List.getElem_cons_succ, Act.put, List.setIfInBounds_toArray, List.set_cons_zero, List.set_cons_succ]
      refine wpAnyH_done (by kernel_rfl) ?_ _
      refine NoPanic.normal ?_
      go_wp2_with fail
      go_ret
      exact ⟨rfl, HL.out.bw⟩
theorem own : ownKnob Try.prog.godebug = none := by kernel_rfl
theorem laidOut : laidOutB Try.prog = true := by kernel_rfl
set_option maxRecDepth 100000 in
theorem lifted (os : Os) (started : os.Started) (H : Type) (enc : TypeId × Value → H) :
    ReturnsInHanded {} Try.checked os 6 .any (Rows.fnStackRepeatSpec.pre6 enc Try.prog Try.f6 Rows.fnStackRepeatRow.domain false) (Rows.fnStackRepeatSpec.post enc Try.prog Try.f6 false true false false) := by
  refine returnsInHanded_of_change (C := Try.checked) own started (by kernel_rfl) Try.func6
    (ChangeSpec.witness6 (enc := enc) (C := Try.checked) false ⟨#[], #[.slice none 0 0], []⟩ 8 (by kernel_rfl) (by kernel_rfl) (by kernel_rfl) (by kernel_rfl)) ?_
  intro W base args ds gs before hval0 hW hcnd _
  have hval : ∀ (j : Nat) t v, Try.f6.params[j]? = some t → args[j]? = some v → Value.okWide Try.prog W .any base t v := hval0
  have hW' := hW
  obtain ⟨p, q, hA0, hV, rfl, hfz, hnd⟩ := hW
  have hA : DataW.TrodAll enc Try.prog W 0 (fun _ => true) true Try.f6.params.toList args.toList ds p := hA0
  rw [Try.params6] at hA hval
  obtain ⟨v0, vs0, d0, ds0, p0, q0, hargs, rfl, rfl, h0, r0⟩ := trodAll_cons hA
  obtain ⟨rfl, rfl, rfl⟩ := trodAll_nil r0
  obtain rfl : args = #[v0] := by cases args; simp_all
  obtain ⟨rfl, rfl⟩ := trodVars_none hV
  have k0 := h0
  have lt0 : ∀ x ∈ p0, x.block < W.heap.size := by obtain ⟨m, hm⟩ := k0; exact DataW.trod_lt m _ _ _ hm
  have w0 : CodeAt W v0 := codeAt_of_trod (T := 22) (E := 5) Try.underlying22 Try.underlying5 (by kernel_rfl) (hval 0 22 v0 rfl rfl) h0
  clear hA0 hval0
  refine (walk v0 W w0).mono fun e W' ⟨he, bel⟩ => ?_
  subst he
  exact ⟨_, rfl, _, _, _, [], _, [], hW', trodAll_mk1 (shut_bool Try.underlying4 _), (trodAll_cons_mk (Below.trod laidOut (by kernel_rfl) (of_decide_eq_true (by kernel_rfl)) k0 bel lt0) trodAll_mk0), rfl, bel.frame _, fun h => by cases h⟩
theorem over : Rows.fnStackRepeatRow.holds Try.pinned (OpenSpec.ofChange Rows.fnStackRepeatSpec) :=
  OpenClaim.holds_of_wide 6 Try.f6 rfl rfl rfl rfl rfl rfl rfl ⟨rfl, rfl, rfl, rfl, rfl⟩ rfl rfl rfl rfl rfl (by kernel_rfl) Try.func6 (by kernel_rfl)
    (of_decide_eq_true (by kernel_rfl)) (by unfold Func.isWrapper; first | (rw [if_pos (by decide +kernel)]; kernel_rfl) | (rw [if_neg (by decide +kernel)]; exact ⟨rfl, rfl⟩))
    (fun os started H enc _ => lifted os started H enc)
end Go.Proofs.Ytkegainegkdgpaa.lawFnStackRepeat
namespace Go.Proofs.Ytkegainegkdgpaa
set_option linter.unusedSimpArgs false
set_option linter.unusedVariables false
/-- The statement. -/
theorem FnStackRepeat_proved : Rows.FnStackRepeatSaid := lawFnStackRepeat.over
#print axioms FnStackRepeat_proved
end Go.Proofs.Ytkegainegkdgpaa
