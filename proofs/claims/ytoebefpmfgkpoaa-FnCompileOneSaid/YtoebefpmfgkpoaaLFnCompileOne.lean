/- FnCompileOne: for every input the call returns true, and the argument reads afterwards as before. No condition. -/
import Derived.Test.YtoebefpmfgkpoaaLwC
import Derived.Test.YtoebefpmfgkpoaaRows
import Derived.Test.YtoebefpmfgkpoaaOpen
import Derived.ProofKit
import Derived.OpenShut
import Derived.ShutString
import Derived.ChangeOld
import Derived.Lib.SmallJoins
namespace Go.Proofs.Ytoebefpmfgkpoaa.lawFnCompileOne
set_option linter.unusedSimpArgs false
set_option linter.unusedVariables false
open Go.ChangeShapes Go.WideShapes Go.ChangeAt Go.RowKit Go.Joins
theorem eqlLabel (W : World) (s a s' a' : Int) : (binOp .eql 56 (.agg #[.int .i64 s, .int .i64 a]) (.agg #[.int .i64 s', .int .i64 a'])).run Try.prog W = .ok (.bool (s == s' && a == a')) W := by
  have u3 := Try.underlying3
  have a3 := Try.isAgg3
  have z3 := Try.sizeOf3
  have hS : Try.prog.underlying 56 = some (.struct (Try.prog.fieldsOf 56)) := by kernel_rfl
  have hp : Try.prog.stoodInHeld 56 = false := by kernel_rfl
  rw [run_eql_struct, show (10000 : Nat) = 9999 + 1 from rfl, run_equalIn_agg W 9999 56 _ _ hS hp]
  simp only [Program.fieldsOf, Try.underlying56]
  go_simp
  by_cases h1 : s = s' <;> by_cases h2 : a = a' <;> simp [h1, h2]
set_option maxRecDepth 100000 in
set_option maxHeartbeats 4000000 in
theorem walk (v : Value) (w : World) (h : CodeAt w v) :
    Calls Try.prog 9 #[v] w fun e w' => e = .returned (.bool true) ∧ Below w.heap.size w w' := by
  obtain ⟨a0, n0, cap0, b0, off0, rfl, hcap0, hmax0, ha0, hc0⟩ := id h
  unfold maxLen at hmax0
  clear ha0 hc0
  have H := Lib.hid h
  clear h
  by_cases hn : 1048576 < n0
  · go_enter Try.func9, Try.ntmps9
    go_wp2
    go_ret
    exact ⟨rfl, Below.refl _ _⟩
  go_enter Try.func9, Try.ntmps9
  go_wp2_with fail
  refine (drawSCo _ _ H.out).mono ?_
  rintro e w1 ⟨⟨n, u, ls, x, p, rfl, hls, hT, hs, hP, _, _⟩, hb⟩
  have L1 : LwP w w1.heap.size n u ls x p (w1.alloc (.cells #[.int .i64 n, u] 25)) := LwP.new hb hT hP
  obtain ⟨ua, uc, rfl, hul, hum⟩ := hT.form2
  obtain ⟨xa, xc, rfl, hxl, hxm⟩ := hP.form2
  unfold maxLen at hum hxm
  have HL := Lib.hid L1
  clear hb L1 hT hP
  obtain ⟨ok, hok⟩ : ∃ ok, pathOk n ls p = ok := ⟨_, rfl⟩
  have HOK := Lib.hid hok
  obtain ⟨O, hO⟩ : ∃ O, compO n ls p = O := ⟨_, rfl⟩
  have HO := Lib.hid hO
  clear hok hO
  go_wp2_with fail
  refine (iComp HOK.out HO.out HL.out.tri HL.out.ints).mono ?_
  rintro e w2 ⟨o1, k1, rfl, hp1, hb⟩
  have HC : Hid (LwC w w1.heap.size n (.slice ua ls.length uc) ls (.slice xa p.length xc) p (.slice o1 O.length k1) O w2) := Lib.hid ⟨HL.out.below hb, hp1⟩
  clear hb HL hp1
  obtain ⟨c0, c1, f0, f1, l0⟩ := box2 HC.out.st.box
  go_wp2_with fail
  refine (sComp HOK.out HO.out HC.out.st.tri HC.out.st.ints).mono ?_
  rintro e w3 ⟨o2, k2, rfl, hp2, hb⟩
  replace HC := Lib.hid (HC.out.below hb)
  have HW := Lib.hid hp2
  clear hb hp2 c0 c1 f0 f1 l0
  cases ok with
  | false =>
    go_wp2_with fail
    refine (sameLabels_self HC.out.out HW.out).mono ?_
    rintro e w4 ⟨rfl, hb⟩
    replace HC := Lib.hid (HC.out.below hb)
    replace HW := Lib.hid (HW.out.below hb (Nat.le_refl _))
    clear hb
    go_wp2_with fail
    refine (sameLabels_self HC.out.out HW.out).mono ?_
    rintro e w5 ⟨rfl, hb⟩
    replace HC := Lib.hid (HC.out.below hb)
    clear hb
    go_wp2_with fail
    go_ret
    exact ⟨rfl, HC.out.st.bw⟩
  | true =>
    obtain ⟨a, P, hpp⟩ := pathOk_cons HOK.out
    have HPP := Lib.hid hpp
    obtain ⟨q, hF⟩ := comp_facts (n := n) (ls := ls) (a := a) (p := P) (by rw [← hpp]; exact HOK.out)
    have hG : compG n ls a P = O := by rw [← HO.out, hpp]; exact (compO_yes (by rw [← hpp]; exact HOK.out)).symm
    have HOG := Lib.hid hG
    have HF := Lib.hid hF
    have HRN : Hid (stkOf n ls a O = some q) := Lib.hid (by rw [← hG]; exact hF.run)
    have hpl : p.length = P.length + 1 := by rw [hpp]; rfl
    have hP8 : P.length ≤ 8 := hF.len
    have hp1 : 0 < p.length := by omega
    obtain ⟨xb, xo, rfl, hxb⟩ := HC.out.st.ints.some hp1
    have HA0 : Hid (p[0]? = some a) := Lib.hid (by rw [hpp]; rfl)
    have hpI : (0:Int) < (p.length:Int) := by omega
    have HPL := Lib.hid hpl
    have hp9 : p.length ≤ 9 := by omega
    clear hpp hF hG hpl
    go_wp2_with fail
    refine (sameLabels_self HC.out.out HW.out).mono ?_
    rintro e w4 ⟨rfl, hb⟩
    replace HC := Lib.hid (HC.out.below hb)
    replace HW := Lib.hid (HW.out.below hb (Nat.le_refl _))
    clear hb
    by_cases hPx : P = []
    · have h2 : decide ((p.length:Int) < 2) = true := decide_eq_true (by have := HPL.out; rw [hPx] at this; simp at this; omega)
      clear hPx
      go_wp2_with fail
      refine (sameLabels_self HC.out.out HW.out).mono ?_
      rintro e w5 ⟨rfl, hb⟩
      replace HC := Lib.hid (HC.out.below hb)
      clear hb
      go_wp2_with fail
      go_ret
      exact ⟨rfl, HC.out.st.bw⟩
    · obtain ⟨x1, r, hPx⟩ := List.exists_cons_of_ne_nil hPx
      have hp2 : 2 ≤ p.length := by have := HPL.out; rw [hPx] at this; simp at this; omega
      have h2 : decide ((p.length:Int) < 2) = false := decide_eq_false (by omega)
      have HPX := Lib.hid hPx
      have wp : IntKind.i64.wrap ((p.length:Int) - 1) = (p.length:Int) - 1 := IntWalk.i64_in _ (by omega)
      have hI1 : (0:Int) ≤ (p.length:Int) - 1 := by omega
      have hI2 : (p.length:Int) - 1 < (p.length:Int) := by omega
      have hI3 : ((p.length:Int) - 1).toNat = p.length - 1 := by omega
      obtain ⟨y, hy⟩ : ∃ y, lastN a P = y := ⟨_, rfl⟩
      have HON := Lib.hid (only_eq (n := n) (ls := ls) (x := a) (q := P) (y := y) (by rw [← HPP.out]; exact HOK.out) hy)
      have HNY : Hid (nd n.toNat y) := Lib.hid (by rw [← hy]; exact path_last (ls := ls) (by rw [← HPP.out]; exact HOK.out))
      have HNA := Lib.hid HF.out.nd
      have HGK := Lib.hid HF.out.ok
      have d0 := HC.out.st.ints.get HA0.out
      rw [Nat.add_zero] at d0
      have d1 := HC.out.st.ints.get (last_ix HPP.out)
      rw [hy] at d1
      obtain ⟨K, hK⟩ : ∃ K, cntG n ls a y = K := ⟨_, rfl⟩
      obtain ⟨C, hC⟩ : ∃ C, costD n ls p = C := ⟨_, rfl⟩
      obtain ⟨D, hD⟩ : ∃ D, distG n ls a y = D := ⟨_, rfl⟩
      have HON2 : Hid (onlyG n ls a P = (decide (C = D) && decide (K = 1))) := Lib.hid (by rw [HON.out, ← hC, ← hD, ← hK, HPP.out])
      have HK := Lib.hid hK; have HCD := Lib.hid hC; have HD := Lib.hid hD; have HYL := Lib.hid hy
      clear hPx hK hC hD hy HON HW
      obtain ⟨c0, c1, f0, f1, l0⟩ := box2 HC.out.st.box
      go_wp2_with fail
      replace HC := Lib.hid HC.out.drew
      clear d0 d1 c0 c1 f0 f1 l0
      obtain ⟨c0, c1, f0, f1, l0⟩ := box2 HC.out.st.box
      have hno : (C = D ∧ K = 1) ∨ (1 < O.length ∨ ∃ k, O[0]? = some (2, k)) := by
        by_cases hk : C = D ∧ K = 1
        · exact .inl hk
        · refine .inr ?_
          have := compG_not_one (n := n) (ls := ls) (a := a) (x := x1) (p := r) (by rw [← HPX.out, HON2.out]; simp; intro h1 h2; exact hk ⟨h1, h2⟩)
          rwa [← HPX.out, HOG.out] at this
      have HNOT := Lib.hid hno
      clear hno
      by_cases hK1 : K = 1
      · have e1 : (K != 1) = false := by simp [hK1]
        by_cases hCD : C = D
        · have e2 : (C != D) = false := by simp [hCD]
          have hO1 : O = [(1, y)] := by rw [← HOG.out, HPX.out, compG_one (by rw [← HPX.out, HON2.out]; simp [hK1, hCD]), ← HPX.out, HYL.out]
          have hol : O.length = 1 := by rw [hO1]; rfl
          obtain ⟨ob, oo, rfl, hob⟩ := HC.out.out.some (by omega)
          have HGT : Hid (O[0]? = some (1, y)) := Lib.hid (by rw [hO1]; rfl)
          have g1 : ((O.length:Int) == 1) = true := by rw [hol]; rfl
          have hOI : (0:Int) < (O.length:Int) := by omega
          have heq : ∀ W, (binOp .eql 56 (.agg #[.int .i64 1, .int .i64 y]) (.agg #[.int .i64 1, .int .i64 y])).run Try.prog W = .ok (.bool true) W := fun W => by rw [eqlLabel]; simp
          clear hO1 hol hK1 hCD HNOT
          refine wp_region_noPanic ?_
          refine wp_region_held_drew (S := (fun w' => w'.cell? ⟨w1.heap.size, 0, none⟩ = some (.int .i64 n) ∧ w'.cell? ⟨w1.heap.size, 1, none⟩ = some (.slice ua ls.length uc))) (by kernel_rfl) (by ((try dsimp only); (first | go_keep | exact ⟨c0, c1⟩))) (fun hHeld => ?_)
          refine wpAnyH_take (i := 0) (oi := _) (v := ?_) rfl (by kernel_rfl) (by kernel_rfl) (by kernel_rfl) (fun _ _ _ h => h) (Or.inl ⟨by rfl, ?_⟩) (by assumption) ?_
          rotate_left
          focus (intro w hSw; (try dsimp only at hSw); go_simp; try (with_reducible rfl))
          try simp only [List.getElem_toArray, List.getElem_cons_zero, List.getElem_cons_succ, Act.put, List.setIfInBounds_toArray, List.set_cons_zero, List.set_cons_succ]
          refine wpAnyH_take (i := 1) (oi := _) (v := ?_) rfl (by kernel_rfl) (by kernel_rfl) (by kernel_rfl) (fun _ _ _ h => h) (Or.inl ⟨by rfl, ?_⟩) (by assumption) ?_
          rotate_left
          focus (intro w hSw; (try dsimp only at hSw); go_simp; try (with_reducible rfl))
          try simp only [List.getElem_toArray, List.getElem_cons_zero, List.getElem_cons_succ, Act.put, List.setIfInBounds_toArray, List.set_cons_zero, List.set_cons_succ]
          refine wpAnyH_take (i := 2) (oi := _) (v := ?_) rfl (by kernel_rfl) (by kernel_rfl) (by kernel_rfl) (fun _ _ _ h => h) (Or.inl ⟨by rfl, ?_⟩) (by assumption) ?_
          rotate_left
          focus (intro w hSw; (try dsimp only at hSw); go_simp; try (with_reducible rfl))
          try simp only [List.getElem_toArray, List.getElem_cons_zero, List.getElem_cons_succ, Act.put, List.setIfInBounds_toArray, List.set_cons_zero, List.set_cons_succ]
          refine wpAnyH_ready (rs := [3]) (by kernel_rfl) (by simp) ?_
          refine AllReadyH.cons (o := _) rfl (fun K hK => ?_) AllReadyH.nil
          go_simp
          (go_at_call 23; refine (iPathCount n ls a y _ _ HC.out.st.tri HGK.out HNA.out HNY.out).mono ?_; rw [HK.out]; rintro e w5 ⟨rfl, hb⟩; replace HC := Lib.hid (HC.out.below hb); clear hb c0 c1 f0 f1 l0; obtain ⟨c0, c1, f0, f1, l0⟩ := box2 HC.out.st.box)
          refine hK.out _ _ (by ((try dsimp only); (first | go_keep | exact ⟨c0, c1⟩))) (fun hHeld => ?_)
          clear hK K
          try simp only [List.getElem_toArray, List.getElem_cons_zero, List.getElem_cons_succ, Act.put, List.setIfInBounds_toArray, List.set_cons_zero, List.set_cons_succ]
          refine wpAnyH_take (i := 4) (oi := _) (v := ?_) rfl (by kernel_rfl) (by kernel_rfl) (by kernel_rfl) (fun _ _ _ h => h) (Or.inl ⟨by rfl, ?_⟩) (by assumption) ?_
          rotate_left
          focus (intro w hSw; (try dsimp only at hSw); go_simp; try (with_reducible rfl))
          try simp only [List.getElem_toArray, List.getElem_cons_zero, List.getElem_cons_succ, Act.put, List.setIfInBounds_toArray, List.set_cons_zero, List.set_cons_succ]
          refine wpAnyH_take (i := 5) (oi := _) (v := ?_) rfl (by kernel_rfl) (by kernel_rfl) (by kernel_rfl) (fun _ _ _ h => h) (Or.inl ⟨by rfl, ?_⟩) (by assumption) ?_
          rotate_left
          focus (intro w hSw; (try dsimp only at hSw); go_simp; try (with_reducible rfl))
          try simp only [List.getElem_toArray, List.getElem_cons_zero, List.getElem_cons_succ, Act.put, List.setIfInBounds_toArray, List.set_cons_zero, List.set_cons_succ]
          refine wpAnyH_take (i := 6) (oi := _) (v := ?_) rfl (by kernel_rfl) (by kernel_rfl) (by kernel_rfl) (fun _ _ _ h => h) (Or.inl ⟨by rfl, ?_⟩) (by assumption) ?_
          rotate_left
          focus (intro w hSw; (try dsimp only at hSw); go_simp; try (with_reducible rfl))
          try simp only [List.getElem_toArray, List.getElem_cons_zero, List.getElem_cons_succ, Act.put, List.setIfInBounds_toArray, List.set_cons_zero, List.set_cons_succ]
          refine wpAnyH_take (i := 7) (oi := _) (v := ?_) rfl (by kernel_rfl) (by kernel_rfl) (by kernel_rfl) (fun _ _ _ h => h) (Or.inl ⟨by rfl, ?_⟩) (by assumption) ?_
          rotate_left
          focus (intro w hSw; (try dsimp only at hSw); go_simp; try (with_reducible rfl))
          try simp only [List.getElem_toArray, List.getElem_cons_zero, List.getElem_cons_succ, Act.put, List.setIfInBounds_toArray, List.set_cons_zero, List.set_cons_succ]
          refine wpAnyH_take (i := 9) (oi := _) (v := ?_) rfl (by kernel_rfl) (by kernel_rfl) (by kernel_rfl) (fun _ _ _ h => h) (Or.inl ⟨by rfl, ?_⟩) (by assumption) ?_
          rotate_left
          focus (intro w hSw; (try dsimp only at hSw); go_simp; try (with_reducible rfl))
          try simp only [List.getElem_toArray, List.getElem_cons_zero, List.getElem_cons_succ, Act.put, List.setIfInBounds_toArray, List.set_cons_zero, List.set_cons_succ]
          refine wpAnyH_take (i := 10) (oi := _) (v := ?_) rfl (by kernel_rfl) (by kernel_rfl) (by kernel_rfl) (fun _ _ _ h => h) (Or.inl ⟨by rfl, ?_⟩) (by assumption) ?_
          rotate_left
          focus (intro w hSw; (try dsimp only at hSw); go_simp; try (with_reducible rfl))
          try simp only [List.getElem_toArray, List.getElem_cons_zero, List.getElem_cons_succ, Act.put, List.setIfInBounds_toArray, List.set_cons_zero, List.set_cons_succ]
          refine wpAnyH_take (i := 11) (oi := _) (v := ?_) rfl (by kernel_rfl) (by kernel_rfl) (by kernel_rfl) (fun _ _ _ h => h) (Or.inl ⟨by rfl, ?_⟩) (by assumption) ?_
          rotate_left
          focus (intro w hSw; (try dsimp only at hSw); go_simp; try (with_reducible rfl))
          try simp only [List.getElem_toArray, List.getElem_cons_zero, List.getElem_cons_succ, Act.put, List.setIfInBounds_toArray, List.set_cons_zero, List.set_cons_succ]
          refine wpAnyH_ready (rs := [8]) (by kernel_rfl) (by simp) ?_
          refine AllReadyH.cons (o := _) rfl (fun K hK => ?_) AllReadyH.nil
          go_simp
          (go_at_call 16; refine (iPathCost n ls p _ _ _ HC.out.st.tri HC.out.st.ints).mono ?_; rw [HCD.out]; rintro e w6 ⟨rfl, hb⟩; replace HC := Lib.hid (HC.out.below hb); clear hb c0 c1 f0 f1 l0; obtain ⟨c0, c1, f0, f1, l0⟩ := box2 HC.out.st.box)
          refine hK.out _ _ (by ((try dsimp only); (first | go_keep | exact ⟨c0, c1⟩))) (fun hHeld => ?_)
          clear hK K
          try simp only [List.getElem_toArray, List.getElem_cons_zero, List.getElem_cons_succ, Act.put, List.setIfInBounds_toArray, List.set_cons_zero, List.set_cons_succ]
          refine wpAnyH_ready (rs := [12]) (by kernel_rfl) (by simp) ?_
          refine AllReadyH.cons (o := _) rfl (fun K hK => ?_) AllReadyH.nil
          go_simp
          (go_at_call 34; refine (dist_any n ls a y _ _ HC.out.st.tri HGK.out HNA.out HNY.out).mono ?_; rw [HD.out]; rintro e w7 ⟨rfl, hb⟩; replace HC := Lib.hid (HC.out.below hb); clear hb c0 c1 f0 f1 l0; obtain ⟨c0, c1, f0, f1, l0⟩ := box2 HC.out.st.box)
          refine hK.out _ _ (by ((try dsimp only); (first | go_keep | exact ⟨c0, c1⟩))) (fun hHeld => ?_)
          clear hK K
          try simp only [List.getElem_toArray, List.getElem_cons_zero, List.getElem_cons_succ, Act.put, List.setIfInBounds_toArray, List.set_cons_zero, List.set_cons_succ]
          refine wpAnyH_take (i := 13) (oi := _) (v := ?_) rfl (by kernel_rfl) (by kernel_rfl) (by kernel_rfl) (fun _ _ _ h => h) (Or.inl ⟨by rfl, ?_⟩) (by assumption) ?_
          rotate_left
          focus (intro w hSw; (try dsimp only at hSw); go_simp; try (with_reducible rfl))
          try simp only [List.getElem_toArray, List.getElem_cons_zero, List.getElem_cons_succ, Act.put, List.setIfInBounds_toArray, List.set_cons_zero, List.set_cons_succ]
          refine wpAnyH_take (i := 14) (oi := _) (v := ?_) rfl (by kernel_rfl) (by kernel_rfl) (by kernel_rfl) (fun _ _ _ h => h) (Or.inl ⟨by rfl, ?_⟩) (by assumption) ?_
          rotate_left
          focus (intro w hSw; (try dsimp only at hSw); go_simp; try (with_reducible rfl))
          try simp only [List.getElem_toArray, List.getElem_cons_zero, List.getElem_cons_succ, Act.put, List.setIfInBounds_toArray, List.set_cons_zero, List.set_cons_succ]
          refine wpAnyH_done (by kernel_rfl) ?_ _
          refine NoPanic.normal ?_
          obtain ⟨q0, q1⟩ := HC.out.out.get HGT.out
          simp only [Nat.zero_mul, Nat.add_zero] at q0 q1
          go_wp2_with fail
          go_ret
          exact ⟨rfl, HC.out.st.bw⟩
        · have e2 : (C != D) = true := by simpa using hCD
          have HNO := Lib.hid (HNOT.out.resolve_left (fun h => hCD h.1))
          clear hK1 hCD HNOT
          refine wp_region_noPanic ?_
          refine wp_region_held_drew (S := (fun w' => w'.cell? ⟨w1.heap.size, 0, none⟩ = some (.int .i64 n) ∧ w'.cell? ⟨w1.heap.size, 1, none⟩ = some (.slice ua ls.length uc))) (by kernel_rfl) (by ((try dsimp only); (first | go_keep | exact ⟨c0, c1⟩))) (fun hHeld => ?_)
          refine wpAnyH_take (i := 0) (oi := _) (v := ?_) rfl (by kernel_rfl) (by kernel_rfl) (by kernel_rfl) (fun _ _ _ h => h) (Or.inl ⟨by rfl, ?_⟩) (by assumption) ?_
          rotate_left
          focus (intro w hSw; (try dsimp only at hSw); go_simp; try (with_reducible rfl))
          try simp only [List.getElem_toArray, List.getElem_cons_zero, List.getElem_cons_succ, Act.put, List.setIfInBounds_toArray, List.set_cons_zero, List.set_cons_succ]
          refine wpAnyH_take (i := 1) (oi := _) (v := ?_) rfl (by kernel_rfl) (by kernel_rfl) (by kernel_rfl) (fun _ _ _ h => h) (Or.inl ⟨by rfl, ?_⟩) (by assumption) ?_
          rotate_left
          focus (intro w hSw; (try dsimp only at hSw); go_simp; try (with_reducible rfl))
          try simp only [List.getElem_toArray, List.getElem_cons_zero, List.getElem_cons_succ, Act.put, List.setIfInBounds_toArray, List.set_cons_zero, List.set_cons_succ]
          refine wpAnyH_take (i := 2) (oi := _) (v := ?_) rfl (by kernel_rfl) (by kernel_rfl) (by kernel_rfl) (fun _ _ _ h => h) (Or.inl ⟨by rfl, ?_⟩) (by assumption) ?_
          rotate_left
          focus (intro w hSw; (try dsimp only at hSw); go_simp; try (with_reducible rfl))
          try simp only [List.getElem_toArray, List.getElem_cons_zero, List.getElem_cons_succ, Act.put, List.setIfInBounds_toArray, List.set_cons_zero, List.set_cons_succ]
          refine wpAnyH_ready (rs := [3]) (by kernel_rfl) (by simp) ?_
          refine AllReadyH.cons (o := _) rfl (fun K hK => ?_) AllReadyH.nil
          go_simp
          (go_at_call 23; refine (iPathCount n ls a y _ _ HC.out.st.tri HGK.out HNA.out HNY.out).mono ?_; rw [HK.out]; rintro e w5 ⟨rfl, hb⟩; replace HC := Lib.hid (HC.out.below hb); clear hb c0 c1 f0 f1 l0; obtain ⟨c0, c1, f0, f1, l0⟩ := box2 HC.out.st.box)
          refine hK.out _ _ (by ((try dsimp only); (first | go_keep | exact ⟨c0, c1⟩))) (fun hHeld => ?_)
          clear hK K
          try simp only [List.getElem_toArray, List.getElem_cons_zero, List.getElem_cons_succ, Act.put, List.setIfInBounds_toArray, List.set_cons_zero, List.set_cons_succ]
          refine wpAnyH_take (i := 4) (oi := _) (v := ?_) rfl (by kernel_rfl) (by kernel_rfl) (by kernel_rfl) (fun _ _ _ h => h) (Or.inl ⟨by rfl, ?_⟩) (by assumption) ?_
          rotate_left
          focus (intro w hSw; (try dsimp only at hSw); go_simp; try (with_reducible rfl))
          try simp only [List.getElem_toArray, List.getElem_cons_zero, List.getElem_cons_succ, Act.put, List.setIfInBounds_toArray, List.set_cons_zero, List.set_cons_succ]
          refine wpAnyH_take (i := 5) (oi := _) (v := ?_) rfl (by kernel_rfl) (by kernel_rfl) (by kernel_rfl) (fun _ _ _ h => h) (Or.inl ⟨by rfl, ?_⟩) (by assumption) ?_
          rotate_left
          focus (intro w hSw; (try dsimp only at hSw); go_simp; try (with_reducible rfl))
          try simp only [List.getElem_toArray, List.getElem_cons_zero, List.getElem_cons_succ, Act.put, List.setIfInBounds_toArray, List.set_cons_zero, List.set_cons_succ]
          refine wpAnyH_take (i := 6) (oi := _) (v := ?_) rfl (by kernel_rfl) (by kernel_rfl) (by kernel_rfl) (fun _ _ _ h => h) (Or.inl ⟨by rfl, ?_⟩) (by assumption) ?_
          rotate_left
          focus (intro w hSw; (try dsimp only at hSw); go_simp; try (with_reducible rfl))
          try simp only [List.getElem_toArray, List.getElem_cons_zero, List.getElem_cons_succ, Act.put, List.setIfInBounds_toArray, List.set_cons_zero, List.set_cons_succ]
          refine wpAnyH_take (i := 7) (oi := _) (v := ?_) rfl (by kernel_rfl) (by kernel_rfl) (by kernel_rfl) (fun _ _ _ h => h) (Or.inl ⟨by rfl, ?_⟩) (by assumption) ?_
          rotate_left
          focus (intro w hSw; (try dsimp only at hSw); go_simp; try (with_reducible rfl))
          try simp only [List.getElem_toArray, List.getElem_cons_zero, List.getElem_cons_succ, Act.put, List.setIfInBounds_toArray, List.set_cons_zero, List.set_cons_succ]
          refine wpAnyH_take (i := 9) (oi := _) (v := ?_) rfl (by kernel_rfl) (by kernel_rfl) (by kernel_rfl) (fun _ _ _ h => h) (Or.inl ⟨by rfl, ?_⟩) (by assumption) ?_
          rotate_left
          focus (intro w hSw; (try dsimp only at hSw); go_simp; try (with_reducible rfl))
          try simp only [List.getElem_toArray, List.getElem_cons_zero, List.getElem_cons_succ, Act.put, List.setIfInBounds_toArray, List.set_cons_zero, List.set_cons_succ]
          refine wpAnyH_take (i := 10) (oi := _) (v := ?_) rfl (by kernel_rfl) (by kernel_rfl) (by kernel_rfl) (fun _ _ _ h => h) (Or.inl ⟨by rfl, ?_⟩) (by assumption) ?_
          rotate_left
          focus (intro w hSw; (try dsimp only at hSw); go_simp; try (with_reducible rfl))
          try simp only [List.getElem_toArray, List.getElem_cons_zero, List.getElem_cons_succ, Act.put, List.setIfInBounds_toArray, List.set_cons_zero, List.set_cons_succ]
          refine wpAnyH_take (i := 11) (oi := _) (v := ?_) rfl (by kernel_rfl) (by kernel_rfl) (by kernel_rfl) (fun _ _ _ h => h) (Or.inl ⟨by rfl, ?_⟩) (by assumption) ?_
          rotate_left
          focus (intro w hSw; (try dsimp only at hSw); go_simp; try (with_reducible rfl))
          try simp only [List.getElem_toArray, List.getElem_cons_zero, List.getElem_cons_succ, Act.put, List.setIfInBounds_toArray, List.set_cons_zero, List.set_cons_succ]
          refine wpAnyH_ready (rs := [8]) (by kernel_rfl) (by simp) ?_
          refine AllReadyH.cons (o := _) rfl (fun K hK => ?_) AllReadyH.nil
          go_simp
          (go_at_call 16; refine (iPathCost n ls p _ _ _ HC.out.st.tri HC.out.st.ints).mono ?_; rw [HCD.out]; rintro e w6 ⟨rfl, hb⟩; replace HC := Lib.hid (HC.out.below hb); clear hb c0 c1 f0 f1 l0; obtain ⟨c0, c1, f0, f1, l0⟩ := box2 HC.out.st.box)
          refine hK.out _ _ (by ((try dsimp only); (first | go_keep | exact ⟨c0, c1⟩))) (fun hHeld => ?_)
          clear hK K
          try simp only [List.getElem_toArray, List.getElem_cons_zero, List.getElem_cons_succ, Act.put, List.setIfInBounds_toArray, List.set_cons_zero, List.set_cons_succ]
          refine wpAnyH_ready (rs := [12]) (by kernel_rfl) (by simp) ?_
          refine AllReadyH.cons (o := _) rfl (fun K hK => ?_) AllReadyH.nil
          go_simp
          (go_at_call 34; refine (dist_any n ls a y _ _ HC.out.st.tri HGK.out HNA.out HNY.out).mono ?_; rw [HD.out]; rintro e w7 ⟨rfl, hb⟩; replace HC := Lib.hid (HC.out.below hb); clear hb c0 c1 f0 f1 l0; obtain ⟨c0, c1, f0, f1, l0⟩ := box2 HC.out.st.box)
          refine hK.out _ _ (by ((try dsimp only); (first | go_keep | exact ⟨c0, c1⟩))) (fun hHeld => ?_)
          clear hK K
          try simp only [List.getElem_toArray, List.getElem_cons_zero, List.getElem_cons_succ, Act.put, List.setIfInBounds_toArray, List.set_cons_zero, List.set_cons_succ]
          refine wpAnyH_take (i := 13) (oi := _) (v := ?_) rfl (by kernel_rfl) (by kernel_rfl) (by kernel_rfl) (fun _ _ _ h => h) (Or.inl ⟨by rfl, ?_⟩) (by assumption) ?_
          rotate_left
          focus (intro w hSw; (try dsimp only at hSw); go_simp; try (with_reducible rfl))
          try simp only [List.getElem_toArray, List.getElem_cons_zero, List.getElem_cons_succ, Act.put, List.setIfInBounds_toArray, List.set_cons_zero, List.set_cons_succ]
          refine wpAnyH_take (i := 14) (oi := _) (v := ?_) rfl (by kernel_rfl) (by kernel_rfl) (by kernel_rfl) (fun _ _ _ h => h) (Or.inl ⟨by rfl, ?_⟩) (by assumption) ?_
          rotate_left
          focus (intro w hSw; (try dsimp only at hSw); go_simp; try (with_reducible rfl))
          try simp only [List.getElem_toArray, List.getElem_cons_zero, List.getElem_cons_succ, Act.put, List.setIfInBounds_toArray, List.set_cons_zero, List.set_cons_succ]
          refine wpAnyH_done (by kernel_rfl) ?_ _
          refine NoPanic.normal ?_
          rcases Nat.lt_or_ge 1 O.length with h1 | h1
          · have g1 : decide ((1:Int) < (O.length:Int)) = true := decide_eq_true (by omega)
            go_wp2_with fail
            go_ret
            exact ⟨rfl, HC.out.st.bw⟩
          · have g1 : decide ((1:Int) < (O.length:Int)) = false := decide_eq_false (by omega)
            obtain ⟨kk, hkk⟩ := HNO.out.resolve_left (by omega)
            have hOl := (List.getElem?_eq_some_iff.1 hkk).1
            obtain ⟨ob, oo, rfl, hob⟩ := HC.out.out.some hOl
            have hOI : (0:Int) < (O.length:Int) := by omega
            have e0 := (HC.out.out.get hkk).1
            simp only [Nat.zero_mul, Nat.add_zero] at e0
            clear hkk
            go_wp2_with fail
            go_ret
            exact ⟨rfl, HC.out.st.bw⟩
      · have e1 : (K != 1) = true := by simpa using hK1
        have HNO := Lib.hid (HNOT.out.resolve_left (fun h => hK1 h.2))
        clear hK1 HNOT
        refine wp_region_noPanic ?_
        refine wp_region_held_drew (S := (fun w' => w'.cell? ⟨w1.heap.size, 0, none⟩ = some (.int .i64 n) ∧ w'.cell? ⟨w1.heap.size, 1, none⟩ = some (.slice ua ls.length uc))) (by kernel_rfl) (by ((try dsimp only); (first | go_keep | exact ⟨c0, c1⟩))) (fun hHeld => ?_)
        refine wpAnyH_take (i := 0) (oi := _) (v := ?_) rfl (by kernel_rfl) (by kernel_rfl) (by kernel_rfl) (fun _ _ _ h => h) (Or.inl ⟨by rfl, ?_⟩) (by assumption) ?_
        rotate_left
        focus (intro w hSw; (try dsimp only at hSw); go_simp; try (with_reducible rfl))
        try simp only [List.getElem_toArray, List.getElem_cons_zero, List.getElem_cons_succ, Act.put, List.setIfInBounds_toArray, List.set_cons_zero, List.set_cons_succ]
        refine wpAnyH_take (i := 1) (oi := _) (v := ?_) rfl (by kernel_rfl) (by kernel_rfl) (by kernel_rfl) (fun _ _ _ h => h) (Or.inl ⟨by rfl, ?_⟩) (by assumption) ?_
        rotate_left
        focus (intro w hSw; (try dsimp only at hSw); go_simp; try (with_reducible rfl))
        try simp only [List.getElem_toArray, List.getElem_cons_zero, List.getElem_cons_succ, Act.put, List.setIfInBounds_toArray, List.set_cons_zero, List.set_cons_succ]
        refine wpAnyH_take (i := 2) (oi := _) (v := ?_) rfl (by kernel_rfl) (by kernel_rfl) (by kernel_rfl) (fun _ _ _ h => h) (Or.inl ⟨by rfl, ?_⟩) (by assumption) ?_
        rotate_left
        focus (intro w hSw; (try dsimp only at hSw); go_simp; try (with_reducible rfl))
        try simp only [List.getElem_toArray, List.getElem_cons_zero, List.getElem_cons_succ, Act.put, List.setIfInBounds_toArray, List.set_cons_zero, List.set_cons_succ]
        refine wpAnyH_ready (rs := [3]) (by kernel_rfl) (by simp) ?_
        refine AllReadyH.cons (o := _) rfl (fun K hK => ?_) AllReadyH.nil
        go_simp
        (go_at_call 23; refine (iPathCount n ls a y _ _ HC.out.st.tri HGK.out HNA.out HNY.out).mono ?_; rw [HK.out]; rintro e w5 ⟨rfl, hb⟩; replace HC := Lib.hid (HC.out.below hb); clear hb c0 c1 f0 f1 l0; obtain ⟨c0, c1, f0, f1, l0⟩ := box2 HC.out.st.box)
        refine hK.out _ _ (by ((try dsimp only); (first | go_keep | exact ⟨c0, c1⟩))) (fun hHeld => ?_)
        clear hK K
        try simp only [List.getElem_toArray, List.getElem_cons_zero, List.getElem_cons_succ, Act.put, List.setIfInBounds_toArray, List.set_cons_zero, List.set_cons_succ]
        refine wpAnyH_take (i := 4) (oi := _) (v := ?_) rfl (by kernel_rfl) (by kernel_rfl) (by kernel_rfl) (fun _ _ _ h => h) (Or.inl ⟨by rfl, ?_⟩) (by assumption) ?_
        rotate_left
        focus (intro w hSw; (try dsimp only at hSw); go_simp; try (with_reducible rfl))
        try simp only [List.getElem_toArray, List.getElem_cons_zero, List.getElem_cons_succ, Act.put, List.setIfInBounds_toArray, List.set_cons_zero, List.set_cons_succ]
        refine wpAnyH_take (i := 5) (oi := _) (v := ?_) rfl (by kernel_rfl) (by kernel_rfl) (by kernel_rfl) (fun _ _ _ h => h) (Or.inl ⟨by rfl, ?_⟩) (by assumption) ?_
        rotate_left
        focus (intro w hSw; (try dsimp only at hSw); go_simp; try (with_reducible rfl))
        try simp only [List.getElem_toArray, List.getElem_cons_zero, List.getElem_cons_succ, Act.put, List.setIfInBounds_toArray, List.set_cons_zero, List.set_cons_succ]
        refine wpAnyH_take (i := 6) (oi := _) (v := Go.undef) rfl (by kernel_rfl) (by kernel_rfl) (by kernel_rfl) (fun _ _ _ h => h) (Or.inr ⟨by rfl, rfl⟩) (by assumption) ?_
        try simp only [List.getElem_toArray, List.getElem_cons_zero, List.getElem_cons_succ, Act.put, List.setIfInBounds_toArray, List.set_cons_zero, List.set_cons_succ]
        refine wpAnyH_take (i := 7) (oi := _) (v := Go.undef) rfl (by kernel_rfl) (by kernel_rfl) (by kernel_rfl) (fun _ _ _ h => h) (Or.inr ⟨by rfl, rfl⟩) (by assumption) ?_
        try simp only [List.getElem_toArray, List.getElem_cons_zero, List.getElem_cons_succ, Act.put, List.setIfInBounds_toArray, List.set_cons_zero, List.set_cons_succ]
        refine wpAnyH_take (i := 8) (oi := _) (v := Go.undef) rfl (by kernel_rfl) (by kernel_rfl) (by kernel_rfl) (fun _ _ _ h => h) (Or.inr ⟨by rfl, rfl⟩) (by assumption) ?_
        try simp only [List.getElem_toArray, List.getElem_cons_zero, List.getElem_cons_succ, Act.put, List.setIfInBounds_toArray, List.set_cons_zero, List.set_cons_succ]
        refine wpAnyH_take (i := 9) (oi := _) (v := Go.undef) rfl (by kernel_rfl) (by kernel_rfl) (by kernel_rfl) (fun _ _ _ h => h) (Or.inr ⟨by rfl, rfl⟩) (by assumption) ?_
        try simp only [List.getElem_toArray, List.getElem_cons_zero, List.getElem_cons_succ, Act.put, List.setIfInBounds_toArray, List.set_cons_zero, List.set_cons_succ]
        refine wpAnyH_take (i := 10) (oi := _) (v := Go.undef) rfl (by kernel_rfl) (by kernel_rfl) (by kernel_rfl) (fun _ _ _ h => h) (Or.inr ⟨by rfl, rfl⟩) (by assumption) ?_
        try simp only [List.getElem_toArray, List.getElem_cons_zero, List.getElem_cons_succ, Act.put, List.setIfInBounds_toArray, List.set_cons_zero, List.set_cons_succ]
        refine wpAnyH_take (i := 11) (oi := _) (v := Go.undef) rfl (by kernel_rfl) (by kernel_rfl) (by kernel_rfl) (fun _ _ _ h => h) (Or.inr ⟨by rfl, rfl⟩) (by assumption) ?_
        try simp only [List.getElem_toArray, List.getElem_cons_zero, List.getElem_cons_succ, Act.put, List.setIfInBounds_toArray, List.set_cons_zero, List.set_cons_succ]
        refine wpAnyH_take (i := 12) (oi := _) (v := Go.undef) rfl (by kernel_rfl) (by kernel_rfl) (by kernel_rfl) (fun _ _ _ h => h) (Or.inr ⟨by rfl, rfl⟩) (by assumption) ?_
        try simp only [List.getElem_toArray, List.getElem_cons_zero, List.getElem_cons_succ, Act.put, List.setIfInBounds_toArray, List.set_cons_zero, List.set_cons_succ]
        refine wpAnyH_take (i := 13) (oi := _) (v := Go.undef) rfl (by kernel_rfl) (by kernel_rfl) (by kernel_rfl) (fun _ _ _ h => h) (Or.inr ⟨by rfl, rfl⟩) (by assumption) ?_
        try simp only [List.getElem_toArray, List.getElem_cons_zero, List.getElem_cons_succ, Act.put, List.setIfInBounds_toArray, List.set_cons_zero, List.set_cons_succ]
        refine wpAnyH_take (i := 14) (oi := _) (v := ?_) rfl (by kernel_rfl) (by kernel_rfl) (by kernel_rfl) (fun _ _ _ h => h) (Or.inl ⟨by rfl, ?_⟩) (by assumption) ?_
        rotate_left
        focus (intro w hSw; (try dsimp only at hSw); go_simp; try (with_reducible rfl))
        try simp only [List.getElem_toArray, List.getElem_cons_zero, List.getElem_cons_succ, Act.put, List.setIfInBounds_toArray, List.set_cons_zero, List.set_cons_succ]
        refine wpAnyH_done (by kernel_rfl) ?_ _
        refine NoPanic.normal ?_
        rcases Nat.lt_or_ge 1 O.length with h1 | h1
        · have g1 : decide ((1:Int) < (O.length:Int)) = true := decide_eq_true (by omega)
          go_wp2_with fail
          go_ret
          exact ⟨rfl, HC.out.st.bw⟩
        · have g1 : decide ((1:Int) < (O.length:Int)) = false := decide_eq_false (by omega)
          obtain ⟨kk, hkk⟩ := HNO.out.resolve_left (by omega)
          have hOl := (List.getElem?_eq_some_iff.1 hkk).1
          obtain ⟨ob, oo, rfl, hob⟩ := HC.out.out.some hOl
          have hOI : (0:Int) < (O.length:Int) := by omega
          have e0 := (HC.out.out.get hkk).1
          simp only [Nat.zero_mul, Nat.add_zero] at e0
          clear hkk
          go_wp2_with fail
          go_ret
          exact ⟨rfl, HC.out.st.bw⟩
theorem own : ownKnob Try.prog.godebug = none := by kernel_rfl
theorem laidOut : laidOutB Try.prog = true := by kernel_rfl
set_option maxRecDepth 100000 in
theorem lifted (os : Os) (started : os.Started) (H : Type) (enc : TypeId × Value → H) :
    ReturnsInHanded {} Try.checked os 9 .any (Rows.fnCompileOneSpec.pre6 enc Try.prog Try.f9 Rows.fnCompileOneRow.domain false) (Rows.fnCompileOneSpec.post enc Try.prog Try.f9 false true false false) := by
  refine returnsInHanded_of_change (C := Try.checked) own started (by kernel_rfl) Try.func9
    (ChangeSpec.witness6 (enc := enc) (C := Try.checked) false ⟨#[], #[.slice none 0 0], []⟩ 8 (by kernel_rfl) (by kernel_rfl) (by kernel_rfl) (by kernel_rfl)) ?_
  intro W base args ds gs before hval0 hW hcnd _
  have hval : ∀ (j : Nat) t v, Try.f9.params[j]? = some t → args[j]? = some v → Value.okWide Try.prog W .any base t v := hval0
  have hW' := hW
  obtain ⟨p, q, hA0, hV, rfl, hfz, hnd⟩ := hW
  have hA : DataW.TrodAll enc Try.prog W 0 (fun _ => true) true Try.f9.params.toList args.toList ds p := hA0
  rw [Try.params9] at hA hval
  obtain ⟨v0, vs0, d0, ds0, p0, q0, hargs, rfl, rfl, h0, r0⟩ := trodAll_cons hA
  obtain ⟨rfl, rfl, rfl⟩ := trodAll_nil r0
  obtain rfl : args = #[v0] := by cases args; simp_all
  obtain ⟨rfl, rfl⟩ := trodVars_none hV
  have k0 := h0
  have lt0 : ∀ x ∈ p0, x.block < W.heap.size := by obtain ⟨m, hm⟩ := k0; exact DataW.trod_lt m _ _ _ hm
  have w0 : CodeAt W v0 := codeAt_of_trod (T := 22) (E := 5) Try.underlying22 Try.underlying5 (by kernel_rfl) (hval 0 22 v0 rfl rfl) h0
  clear hA0 hval0
  refine (walk v0 W w0).mono fun e W' ⟨he, bel⟩ => ?_
  subst he
  exact ⟨_, rfl, _, _, _, [], _, [], hW', trodAll_mk1 (shut_bool Try.underlying4 _), (trodAll_cons_mk (Below.trod laidOut (by kernel_rfl) (of_decide_eq_true (by kernel_rfl)) k0 bel lt0) trodAll_mk0), rfl, bel.frame _, fun h => by cases h⟩
theorem over : Rows.fnCompileOneRow.holds Try.pinned (OpenSpec.ofChange Rows.fnCompileOneSpec) :=
  OpenClaim.holds_of_wide 9 Try.f9 rfl rfl rfl rfl rfl rfl rfl ⟨rfl, rfl, rfl, rfl, rfl⟩ rfl rfl rfl rfl rfl (by kernel_rfl) Try.func9 (by kernel_rfl)
    (of_decide_eq_true (by kernel_rfl)) (by unfold Func.isWrapper; first | (rw [if_pos (by decide +kernel)]; kernel_rfl) | (rw [if_neg (by decide +kernel)]; exact ⟨rfl, rfl⟩))
    (fun os started H enc _ => lifted os started H enc)
end Go.Proofs.Ytoebefpmfgkpoaa.lawFnCompileOne
namespace Go.Proofs.Ytoebefpmfgkpoaa
set_option linter.unusedSimpArgs false
set_option linter.unusedVariables false
/-- The statement. -/
theorem FnCompileOne_proved : Rows.FnCompileOneSaid := lawFnCompileOne.over
#print axioms FnCompileOne_proved
end Go.Proofs.Ytoebefpmfgkpoaa
