/- FnCompileShort: for every input the call returns true, and the argument reads afterwards as before. No condition. -/
import Derived.Test.YtoebefpmfgkpoaaLwC
import Derived.Test.YtoebefpmfgkpoaaRows
import Derived.Test.YtoebefpmfgkpoaaOpen
import Derived.ProofKit
import Derived.OpenShut
import Derived.ShutString
import Derived.ChangeOld
import Derived.Lib.SmallJoins
namespace Go.Proofs.Ytoebefpmfgkpoaa.lawFnCompileShort
set_option linter.unusedSimpArgs false
set_option linter.unusedVariables false
open Go.ChangeShapes Go.WideShapes Go.ChangeAt Go.RowKit Go.Joins
set_option maxRecDepth 100000 in
set_option maxHeartbeats 4000000 in
theorem walk (v v2 : Value) (w : World) (h : CodeAt w v) (h2 : CodeAt w v2) :
    Calls Try.prog 7 #[v, v2] w fun e w' => e = .returned (.bool true) ∧ Below w.heap.size w w' := by
  obtain ⟨a0, n0, cap0, b0, off0, rfl, hcap0, hmax0, ha0, hc0⟩ := id h
  unfold maxLen at hmax0
  clear ha0 hc0
  have H := Lib.hid h
  clear h
  obtain ⟨a3, n3, cap3, b3, off3, rfl, hcap3, hmax3, ha3, hc3⟩ := h2
  unfold maxLen at hmax3
  clear ha3 hc3
  by_cases hn : 1048576 < n0
  · have t0 : decide ((1048576:Int) < (n0:Int)) = true := by simp; omega
    go_enter Try.func7, Try.ntmps7
    go_wp2
    go_ret
    exact ⟨rfl, Below.refl _ _⟩
  have t0 : decide ((1048576:Int) < (n0:Int)) = false := by simp; omega
  by_cases hn3 : 1048576 < n3
  · have t1 : decide ((1048576:Int) < (n3:Int)) = true := by simp; omega
    go_enter Try.func7, Try.ntmps7
    go_wp2
    go_ret
    exact ⟨rfl, Below.refl _ _⟩
  have t1 : decide ((1048576:Int) < (n3:Int)) = false := by simp; omega
  go_enter Try.func7, Try.ntmps7
  go_wp2_with fail
  refine (drawSCo _ _ H.out).mono ?_
  rintro e w1 ⟨⟨n, u, ls, x, p, rfl, hls, hT, hs, hP, _, _⟩, hb⟩
  have L1 : LwP w w1.heap.size n u ls x p (w1.alloc (.cells #[.int .i64 n, u] 25)) := LwP.new hb hT hP
  obtain ⟨ua, uc, rfl, hul, hum⟩ := hT.form2
  obtain ⟨xa, xc, rfl, hxl, hxm⟩ := hP.form2
  unfold maxLen at hum hxm
  have HL := Lib.hid L1
  clear hb L1 hT hP
  obtain ⟨ok, hok⟩ : ∃ ok, pathOk n ls p = ok := ⟨_, rfl⟩
  have HOK := Lib.hid hok
  obtain ⟨O, hO⟩ : ∃ O, compO n ls p = O := ⟨_, rfl⟩
  have HO := Lib.hid hO
  clear hok hO
  go_wp2_with fail
  refine (iComp HOK.out HO.out HL.out.tri HL.out.ints).mono ?_
  rintro e w2 ⟨o1, k1, rfl, hp1, hb⟩
  have HC : Hid (LwC w w1.heap.size n (.slice ua ls.length uc) ls (.slice xa p.length xc) p (.slice o1 O.length k1) O w2) := Lib.hid ⟨HL.out.below hb, hp1⟩
  clear hb HL hp1
  obtain ⟨c0, c1, f0, f1, l0⟩ := box2 HC.out.st.box
  go_wp2_with fail
  refine (sComp HOK.out HO.out HC.out.st.tri HC.out.st.ints).mono ?_
  rintro e w3 ⟨o2, k2, rfl, hp2, hb⟩
  replace HC := Lib.hid (HC.out.below hb)
  have HW := Lib.hid hp2
  clear hb hp2 c0 c1 f0 f1 l0
  cases ok with
  | false =>
    go_wp2_with fail
    refine (sameLabels_self HC.out.out HW.out).mono ?_
    rintro e w4 ⟨rfl, hb⟩
    replace HC := Lib.hid (HC.out.below hb)
    replace HW := Lib.hid (HW.out.below hb (Nat.le_refl _))
    clear hb
    go_wp2_with fail
    refine (sameLabels_self HC.out.out HW.out).mono ?_
    rintro e w5 ⟨rfl, hb⟩
    replace HC := Lib.hid (HC.out.below hb)
    clear hb
    go_wp2_with fail
    go_ret
    exact ⟨rfl, HC.out.st.bw⟩
  | true =>
    obtain ⟨a, P, hpp⟩ := pathOk_cons HOK.out
    have HPP := Lib.hid hpp
    obtain ⟨q, hF⟩ := comp_facts (n := n) (ls := ls) (a := a) (p := P) (by rw [← hpp]; exact HOK.out)
    have hG : compG n ls a P = O := by rw [← HO.out, hpp]; exact (compO_yes (by rw [← hpp]; exact HOK.out)).symm
    have HOG := Lib.hid hG
    have HF := Lib.hid hF
    have HRN : Hid (stkOf n ls a O = some q) := Lib.hid (by rw [← hG]; exact hF.run)
    have hpl : p.length = P.length + 1 := by rw [hpp]; rfl
    have hP8 : P.length ≤ 8 := hF.len
    have hp1 : 0 < p.length := by omega
    obtain ⟨xb, xo, rfl, hxb⟩ := HC.out.st.ints.some hp1
    have HA0 : Hid (p[0]? = some a) := Lib.hid (by rw [hpp]; rfl)
    have hpI : (0:Int) < (p.length:Int) := by omega
    have HPL := Lib.hid hpl
    have hp9 : p.length ≤ 9 := by omega
    clear hpp hF hG hpl
    go_wp2_with fail
    refine (sameLabels_self HC.out.out HW.out).mono ?_
    rintro e w4 ⟨rfl, hb⟩
    replace HC := Lib.hid (HC.out.below hb)
    replace HW := Lib.hid (HW.out.below hb (Nat.le_refl _))
    clear hb
    obtain ⟨k, hk, hkm⟩ : ∃ k : Nat, (n3:Int) % (p.length:Int) = (k:Int) ∧ k < p.length := ⟨n3 % p.length, by first | rfl | simp, Nat.mod_lt _ hp1⟩
    have hne : (p.length:Int) ≠ 0 := by omega
    have hne2 : ((p.length:Int) == 0) = false := by rw [beq_eq_false_iff_ne]; omega
    have htm : (n3:Int).tmod (p.length:Int) = (k:Int) := by rw [Int.tmod_eq_emod_of_nonneg (by omega)]; exact hk
    have wk : IntKind.i64.wrap (k:Int) = (k:Int) := IntWalk.i64_in _ (by omega)
    have wk1 : IntKind.i64.wrap ((k:Int) + 1) = (k:Int) + 1 := IntWalk.i64_in _ (by omega)
    have wp : IntKind.i64.wrap ((p.length:Int) - 1) = (p.length:Int) - 1 := IntWalk.i64_in _ (by omega)
    obtain ⟨i1, hi1, hq1, hy1, hq2⟩ := info_parts infoIntC
    have hs1 : ∀ W : World, (Instr.slice 26 (.slice (some ⟨xb, xo, none⟩) p.length xc) none (some (.int .i64 ((k:Int) + 1))) none).run Try.prog W = .ok (.slice (cutA (some ⟨xb, xo, none⟩) xc 0 1) (k + 1) xc) W := fun W => by have h := run_head (P := Try.prog) (A := some ⟨xb, xo, none⟩) (n := p.length) (c := xc) (k := (k:Int) + 1) Try.underlying26 hi1 (k + 1) rfl (by omega) W; rw [hy1] at h; exact h
    have hs2 : ∀ W : World, (Instr.slice 26 (.slice (some ⟨xb, xo, none⟩) p.length xc) (some (.int .i64 (k:Int))) none none).run Try.prog W = .ok (.slice (cutA (some ⟨xb, xo, none⟩) xc k 1) (p.length - k) (xc - k)) W := fun W => by have h := run_tail (P := Try.prog) (A := some ⟨xb, xo, none⟩) (n := p.length) (c := xc) (k := (k:Int)) Try.underlying26 hi1 k rfl (by omega) W; rw [hy1] at h; exact h
    obtain ⟨y, hy⟩ := at_lt (l := p) (n := p.length) rfl hkm
    obtain ⟨t2, t3, t4, t5, t6, t7, t8⟩ := comp_two (n := n) (ls := ls) (a := a) (p := P) (k := k) (x := y) (by rw [← HPP.out]; exact HOK.out) (by rw [← HPP.out]; exact hy)
    rw [← HPP.out] at t2 t3
    have t9 := HF.out.few
    rw [HOG.out] at t6 t7 t8 t9
    rw [← t2] at t4
    rw [← t3] at t5
    obtain ⟨OA, hOA⟩ : ∃ OA, compO n ls (p.take (k + 1)) = OA := ⟨_, rfl⟩
    obtain ⟨OB, hOB⟩ : ∃ OB, compO n ls (p.drop k) = OB := ⟨_, rfl⟩
    have HOA := Lib.hid hOA; have HOB := Lib.hid hOB; have HT4 := Lib.hid t4; have HT5 := Lib.hid t5
    rw [show compG n ls a (P.take k) = OA by rw [← hOA, t2]; rw [t2] at t4; exact (compO_yes t4).symm, show compG n ls y (P.drop k) = OB by rw [← hOB, t3]; rw [t3] at t5; exact (compO_yes t5).symm] at t6
    rw [show compG n ls a (P.take k) = OA by rw [← hOA, t2]; rw [t2] at t4; exact (compO_yes t4).symm] at t7
    rw [show compG n ls y (P.drop k) = OB by rw [← hOB, t3]; rw [t3] at t5; exact (compO_yes t5).symm] at t8
    obtain ⟨mo, hmo⟩ : ∃ mo, O.length = mo := ⟨_, rfl⟩
    obtain ⟨ma, hma⟩ : ∃ ma, OA.length = ma := ⟨_, rfl⟩
    obtain ⟨mb, hmb⟩ : ∃ mb, OB.length = mb := ⟨_, rfl⟩
    rw [hmo] at t6 t7 t8 t9 HC HW ⊢
    rw [hma] at t6 t7
    rw [hmb] at t6 t8
    have HMA := Lib.hid hma; have HMB := Lib.hid hmb
    have g1 : decide ((mo:Int) ≤ (p.length:Int) - 1) = true := decide_eq_true (by have := HPL.out; omega)
    have g2 : decide ((mo:Int) ≤ (ma:Int) + (mb:Int)) = true := decide_eq_true (by omega)
    have g3 : decide ((ma:Int) ≤ (mo:Int)) = true := decide_eq_true (by omega)
    have g4 : decide ((mb:Int) ≤ (mo:Int)) = true := decide_eq_true (by omega)
    have wab : IntKind.i64.wrap ((ma:Int) + (mb:Int)) = (ma:Int) + (mb:Int) := IntWalk.i64_in _ (by omega)
    have hkl : k + 1 ≤ p.length := by omega
    clear hOA hOB t2 t3 t4 t5 hi1 hq1 hy1 hq2 hy hma hmb hmo HW
    go_wp2_with fail
    replace HC := Lib.hid HC.out.drew
    obtain ⟨c0, c1, f0, f1, l0⟩ := box2 HC.out.st.box
    refine wp_region_noPanic ?_
    refine wp_region_held_drew (S := (fun w' => w'.cell? ⟨w1.heap.size, 0, none⟩ = some (.int .i64 n) ∧ w'.cell? ⟨w1.heap.size, 1, none⟩ = some (.slice ua ls.length uc))) (by kernel_rfl) (by ((try dsimp only); (first | go_keep | exact ⟨c0, c1⟩))) (fun hHeld => ?_)
    refine wpAnyH_take (i := 0) (oi := _) (v := ?_) rfl (by kernel_rfl) (by kernel_rfl) (by kernel_rfl) (fun _ _ _ h => h) (Or.inl ⟨by rfl, ?_⟩) (by assumption) ?_
    rotate_left
    focus (intro w hSw; (try dsimp only at hSw); go_simp; try (with_reducible rfl))
    try simp only [List.getElem_toArray, List.getElem_cons_zero, List.getElem_cons_succ, Act.put, List.setIfInBounds_toArray, List.set_cons_zero, List.set_cons_succ]
    refine wpAnyH_take (i := 1) (oi := _) (v := ?_) rfl (by kernel_rfl) (by kernel_rfl) (by kernel_rfl) (fun _ _ _ h => h) (Or.inl ⟨by rfl, ?_⟩) (by assumption) ?_
    rotate_left
    focus (intro w hSw; (try dsimp only at hSw); go_simp; try (with_reducible rfl))
    try simp only [List.getElem_toArray, List.getElem_cons_zero, List.getElem_cons_succ, Act.put, List.setIfInBounds_toArray, List.set_cons_zero, List.set_cons_succ]
    refine wpAnyH_take (i := 2) (oi := _) (v := ?_) rfl (by kernel_rfl) (by kernel_rfl) (by kernel_rfl) (fun _ _ _ h => h) (Or.inl ⟨by rfl, ?_⟩) (by assumption) ?_
    rotate_left
    focus (intro w hSw; (try dsimp only at hSw); go_simp; try (with_reducible rfl))
    try simp only [List.getElem_toArray, List.getElem_cons_zero, List.getElem_cons_succ, Act.put, List.setIfInBounds_toArray, List.set_cons_zero, List.set_cons_succ]
    refine wpAnyH_take (i := 3) (oi := _) (v := ?_) rfl (by kernel_rfl) (by kernel_rfl) (by kernel_rfl) (fun _ _ _ h => h) (Or.inl ⟨by rfl, ?_⟩) (by assumption) ?_
    rotate_left
    focus (intro w hSw; (try dsimp only at hSw); go_simp; try (with_reducible rfl))
    try simp only [List.getElem_toArray, List.getElem_cons_zero, List.getElem_cons_succ, Act.put, List.setIfInBounds_toArray, List.set_cons_zero, List.set_cons_succ]
    refine wpAnyH_ready (rs := [4]) (by kernel_rfl) (by simp) ?_
    refine AllReadyH.cons (o := _) rfl (fun K hK => ?_) AllReadyH.nil
    go_simp
    refine hK.out _ _ (by ((try dsimp only); (first | go_keep | exact ⟨c0, c1⟩))) (fun hHeld => ?_)
    clear hK K
    try simp only [List.getElem_toArray, List.getElem_cons_zero, List.getElem_cons_succ, Act.put, List.setIfInBounds_toArray, List.set_cons_zero, List.set_cons_succ]
    refine wpAnyH_ready (rs := [5]) (by kernel_rfl) (by simp) ?_
    refine AllReadyH.cons (o := _) rfl (fun K hK => ?_) AllReadyH.nil
    go_simp
    (go_at_call 12; refine (iComp HT4.out HOA.out HC.out.st.tri (cutI_head HC.out.st.ints (k + 1) hkl)).mono ?_; rw [HMA.out]; rintro e w5 ⟨o3, k3, rfl, hp3, hb⟩; clear hp3; replace HC := Lib.hid (HC.out.below hb); clear hb c0 c1 f0 f1 l0; obtain ⟨c0, c1, f0, f1, l0⟩ := box2 HC.out.st.box)
    refine hK.out _ _ (by ((try dsimp only); (first | go_keep | exact ⟨c0, c1⟩))) (fun hHeld => ?_)
    clear hK K
    try simp only [List.getElem_toArray, List.getElem_cons_zero, List.getElem_cons_succ, Act.put, List.setIfInBounds_toArray, List.set_cons_zero, List.set_cons_succ]
    refine wpAnyH_take (i := 6) (oi := _) (v := ?_) rfl (by kernel_rfl) (by kernel_rfl) (by kernel_rfl) (fun _ _ _ h => h) (Or.inl ⟨by rfl, ?_⟩) (by assumption) ?_
    rotate_left
    focus (intro w hSw; (try dsimp only at hSw); go_simp; try (with_reducible rfl))
    try simp only [List.getElem_toArray, List.getElem_cons_zero, List.getElem_cons_succ, Act.put, List.setIfInBounds_toArray, List.set_cons_zero, List.set_cons_succ]
    refine wpAnyH_take (i := 7) (oi := _) (v := ?_) rfl (by kernel_rfl) (by kernel_rfl) (by kernel_rfl) (fun _ _ _ h => h) (Or.inl ⟨by rfl, ?_⟩) (by assumption) ?_
    rotate_left
    focus (intro w hSw; (try dsimp only at hSw); go_simp; try (with_reducible rfl))
    try simp only [List.getElem_toArray, List.getElem_cons_zero, List.getElem_cons_succ, Act.put, List.setIfInBounds_toArray, List.set_cons_zero, List.set_cons_succ]
    refine wpAnyH_take (i := 8) (oi := _) (v := ?_) rfl (by kernel_rfl) (by kernel_rfl) (by kernel_rfl) (fun _ _ _ h => h) (Or.inl ⟨by rfl, ?_⟩) (by assumption) ?_
    rotate_left
    focus (intro w hSw; (try dsimp only at hSw); go_simp; try (with_reducible rfl))
    try simp only [List.getElem_toArray, List.getElem_cons_zero, List.getElem_cons_succ, Act.put, List.setIfInBounds_toArray, List.set_cons_zero, List.set_cons_succ]
    refine wpAnyH_take (i := 9) (oi := _) (v := ?_) rfl (by kernel_rfl) (by kernel_rfl) (by kernel_rfl) (fun _ _ _ h => h) (Or.inl ⟨by rfl, ?_⟩) (by assumption) ?_
    rotate_left
    focus (intro w hSw; (try dsimp only at hSw); go_simp; try (with_reducible rfl))
    try simp only [List.getElem_toArray, List.getElem_cons_zero, List.getElem_cons_succ, Act.put, List.setIfInBounds_toArray, List.set_cons_zero, List.set_cons_succ]
    refine wpAnyH_take (i := 10) (oi := _) (v := ?_) rfl (by kernel_rfl) (by kernel_rfl) (by kernel_rfl) (fun _ _ _ h => h) (Or.inl ⟨by rfl, ?_⟩) (by assumption) ?_
    rotate_left
    focus (intro w hSw; (try dsimp only at hSw); go_simp; try (with_reducible rfl))
    try simp only [List.getElem_toArray, List.getElem_cons_zero, List.getElem_cons_succ, Act.put, List.setIfInBounds_toArray, List.set_cons_zero, List.set_cons_succ]
    refine wpAnyH_done (by kernel_rfl) ?_ _
    refine NoPanic.normal ?_
    go_wp2_with fail
    replace HC := Lib.hid HC.out.drew
    clear c0 c1 f0 f1 l0
    obtain ⟨c0, c1, f0, f1, l0⟩ := box2 HC.out.st.box
    refine wp_region_noPanic ?_
    refine wp_region_held_drew (S := (fun w' => w'.cell? ⟨w1.heap.size, 0, none⟩ = some (.int .i64 n) ∧ w'.cell? ⟨w1.heap.size, 1, none⟩ = some (.slice ua ls.length uc))) (by kernel_rfl) (by ((try dsimp only); (first | go_keep | exact ⟨c0, c1⟩))) (fun hHeld => ?_)
    refine wpAnyH_take (i := 0) (oi := _) (v := ?_) rfl (by kernel_rfl) (by kernel_rfl) (by kernel_rfl) (fun _ _ _ h => h) (Or.inl ⟨by rfl, ?_⟩) (by assumption) ?_
    rotate_left
    focus (intro w hSw; (try dsimp only at hSw); go_simp; try (with_reducible rfl))
    try simp only [List.getElem_toArray, List.getElem_cons_zero, List.getElem_cons_succ, Act.put, List.setIfInBounds_toArray, List.set_cons_zero, List.set_cons_succ]
    refine wpAnyH_take (i := 1) (oi := _) (v := ?_) rfl (by kernel_rfl) (by kernel_rfl) (by kernel_rfl) (fun _ _ _ h => h) (Or.inl ⟨by rfl, ?_⟩) (by assumption) ?_
    rotate_left
    focus (intro w hSw; (try dsimp only at hSw); go_simp; try (with_reducible rfl))
    try simp only [List.getElem_toArray, List.getElem_cons_zero, List.getElem_cons_succ, Act.put, List.setIfInBounds_toArray, List.set_cons_zero, List.set_cons_succ]
    refine wpAnyH_take (i := 2) (oi := _) (v := ?_) rfl (by kernel_rfl) (by kernel_rfl) (by kernel_rfl) (fun _ _ _ h => h) (Or.inl ⟨by rfl, ?_⟩) (by assumption) ?_
    rotate_left
    focus (intro w hSw; (try dsimp only at hSw); go_simp; try (with_reducible rfl))
    try simp only [List.getElem_toArray, List.getElem_cons_zero, List.getElem_cons_succ, Act.put, List.setIfInBounds_toArray, List.set_cons_zero, List.set_cons_succ]
    refine wpAnyH_ready (rs := [3]) (by kernel_rfl) (by simp) ?_
    refine AllReadyH.cons (o := _) rfl (fun K hK => ?_) AllReadyH.nil
    go_simp
    refine hK.out _ _ (by ((try dsimp only); (first | go_keep | exact ⟨c0, c1⟩))) (fun hHeld => ?_)
    clear hK K
    try simp only [List.getElem_toArray, List.getElem_cons_zero, List.getElem_cons_succ, Act.put, List.setIfInBounds_toArray, List.set_cons_zero, List.set_cons_succ]
    refine wpAnyH_ready (rs := [4]) (by kernel_rfl) (by simp) ?_
    refine AllReadyH.cons (o := _) rfl (fun K hK => ?_) AllReadyH.nil
    go_simp
    (go_at_call 12; refine (iComp HT5.out HOB.out HC.out.st.tri (cutI_tail HC.out.st.ints k (by omega))).mono ?_; rw [HMB.out]; rintro e w6 ⟨o4, k4, rfl, hp4, hb⟩; clear hp4; replace HC := Lib.hid (HC.out.below hb); clear hb c0 c1 f0 f1 l0; obtain ⟨c0, c1, f0, f1, l0⟩ := box2 HC.out.st.box)
    refine hK.out _ _ (by ((try dsimp only); (first | go_keep | exact ⟨c0, c1⟩))) (fun hHeld => ?_)
    clear hK K
    try simp only [List.getElem_toArray, List.getElem_cons_zero, List.getElem_cons_succ, Act.put, List.setIfInBounds_toArray, List.set_cons_zero, List.set_cons_succ]
    refine wpAnyH_take (i := 5) (oi := _) (v := ?_) rfl (by kernel_rfl) (by kernel_rfl) (by kernel_rfl) (fun _ _ _ h => h) (Or.inl ⟨by rfl, ?_⟩) (by assumption) ?_
    rotate_left
    focus (intro w hSw; (try dsimp only at hSw); go_simp; try (with_reducible rfl))
    try simp only [List.getElem_toArray, List.getElem_cons_zero, List.getElem_cons_succ, Act.put, List.setIfInBounds_toArray, List.set_cons_zero, List.set_cons_succ]
    refine wpAnyH_take (i := 6) (oi := _) (v := ?_) rfl (by kernel_rfl) (by kernel_rfl) (by kernel_rfl) (fun _ _ _ h => h) (Or.inl ⟨by rfl, ?_⟩) (by assumption) ?_
    rotate_left
    focus (intro w hSw; (try dsimp only at hSw); go_simp; try (with_reducible rfl))
    try simp only [List.getElem_toArray, List.getElem_cons_zero, List.getElem_cons_succ, Act.put, List.setIfInBounds_toArray, List.set_cons_zero, List.set_cons_succ]
    refine wpAnyH_take (i := 7) (oi := _) (v := ?_) rfl (by kernel_rfl) (by kernel_rfl) (by kernel_rfl) (fun _ _ _ h => h) (Or.inl ⟨by rfl, ?_⟩) (by assumption) ?_
    rotate_left
    focus (intro w hSw; (try dsimp only at hSw); go_simp; try (with_reducible rfl))
    try simp only [List.getElem_toArray, List.getElem_cons_zero, List.getElem_cons_succ, Act.put, List.setIfInBounds_toArray, List.set_cons_zero, List.set_cons_succ]
    refine wpAnyH_take (i := 8) (oi := _) (v := ?_) rfl (by kernel_rfl) (by kernel_rfl) (by kernel_rfl) (fun _ _ _ h => h) (Or.inl ⟨by rfl, ?_⟩) (by assumption) ?_
    rotate_left
    focus (intro w hSw; (try dsimp only at hSw); go_simp; try (with_reducible rfl))
    try simp only [List.getElem_toArray, List.getElem_cons_zero, List.getElem_cons_succ, Act.put, List.setIfInBounds_toArray, List.set_cons_zero, List.set_cons_succ]
    refine wpAnyH_take (i := 9) (oi := _) (v := ?_) rfl (by kernel_rfl) (by kernel_rfl) (by kernel_rfl) (fun _ _ _ h => h) (Or.inl ⟨by rfl, ?_⟩) (by assumption) ?_
    rotate_left
    focus (intro w hSw; (try dsimp only at hSw); go_simp; try (with_reducible rfl))
    try simp only [List.getElem_toArray, List.getElem_cons_zero, List.getElem_cons_succ, Act.put, List.setIfInBounds_toArray, List.set_cons_zero, List.set_cons_succ]
    refine wpAnyH_done (by kernel_rfl) ?_ _
    refine NoPanic.normal ?_
    go_wp2_with fail
    go_ret
    exact ⟨rfl, HC.out.st.bw⟩
theorem own : ownKnob Try.prog.godebug = none := by kernel_rfl
theorem laidOut : laidOutB Try.prog = true := by kernel_rfl
set_option maxRecDepth 100000 in
theorem lifted (os : Os) (started : os.Started) (H : Type) (enc : TypeId × Value → H) :
    ReturnsInHanded {} Try.checked os 7 .any (Rows.fnCompileShortSpec.pre6 enc Try.prog Try.f7 Rows.fnCompileShortRow.domain false) (Rows.fnCompileShortSpec.post enc Try.prog Try.f7 false true false false) := by
  refine returnsInHanded_of_change (C := Try.checked) own started (by kernel_rfl) Try.func7
    (ChangeSpec.witness6 (enc := enc) (C := Try.checked) false ⟨#[], #[.slice none 0 0, .slice none 0 0], []⟩ 8 (by kernel_rfl) (by kernel_rfl) (by kernel_rfl) (by kernel_rfl)) ?_
  intro W base args ds gs before hval0 hW hcnd _
  have hval : ∀ (j : Nat) t v, Try.f7.params[j]? = some t → args[j]? = some v → Value.okWide Try.prog W .any base t v := hval0
  have hW' := hW
  obtain ⟨p, q, hA0, hV, rfl, hfz, hnd⟩ := hW
  have hA : DataW.TrodAll enc Try.prog W 0 (fun _ => true) true Try.f7.params.toList args.toList ds p := hA0
  rw [Try.params7] at hA hval
  obtain ⟨v0, vs0, d0, ds0, p0, q0, hargs, rfl, rfl, h0, r0⟩ := trodAll_cons hA
  obtain ⟨v1, vs1, d1, ds1, p1, q1, rfl, rfl, rfl, h1, r1⟩ := trodAll_cons r0
  obtain ⟨rfl, rfl, rfl⟩ := trodAll_nil r1
  obtain rfl : args = #[v0, v1] := by cases args; simp_all
  obtain ⟨rfl, rfl⟩ := trodVars_none hV
  have k0 := h0
  have lt0 : ∀ x ∈ p0, x.block < W.heap.size := by obtain ⟨m, hm⟩ := k0; exact DataW.trod_lt m _ _ _ hm
  have w0 : CodeAt W v0 := codeAt_of_trod (T := 22) (E := 5) Try.underlying22 Try.underlying5 (by kernel_rfl) (hval 0 22 v0 rfl rfl) h0
  have k1 := h1
  have lt1 : ∀ x ∈ p1, x.block < W.heap.size := by obtain ⟨m, hm⟩ := k1; exact DataW.trod_lt m _ _ _ hm
  have w1 : CodeAt W v1 := codeAt_of_trod (T := 22) (E := 5) Try.underlying22 Try.underlying5 (by kernel_rfl) (hval 1 22 v1 rfl rfl) h1
  clear hA0 hval0
  refine (walk v0 v1 W w0 w1).mono fun e W' ⟨he, bel⟩ => ?_
  subst he
  exact ⟨_, rfl, _, _, _, [], _, [], hW', trodAll_mk1 (shut_bool Try.underlying4 _), (trodAll_cons_mk (Below.trod laidOut (by kernel_rfl) (of_decide_eq_true (by kernel_rfl)) k0 bel lt0) (trodAll_cons_mk (Below.trod laidOut (by kernel_rfl) (of_decide_eq_true (by kernel_rfl)) k1 bel lt1) trodAll_mk0)), rfl, bel.frame _, fun h => by cases h⟩
theorem over : Rows.fnCompileShortRow.holds Try.pinned (OpenSpec.ofChange Rows.fnCompileShortSpec) :=
  OpenClaim.holds_of_wide 7 Try.f7 rfl rfl rfl rfl rfl rfl rfl ⟨rfl, rfl, rfl, rfl, rfl⟩ rfl rfl rfl rfl rfl (by kernel_rfl) Try.func7 (by kernel_rfl)
    (of_decide_eq_true (by kernel_rfl)) (by unfold Func.isWrapper; first | (rw [if_pos (by decide +kernel)]; kernel_rfl) | (rw [if_neg (by decide +kernel)]; exact ⟨rfl, rfl⟩))
    (fun os started H enc _ => lifted os started H enc)
end Go.Proofs.Ytoebefpmfgkpoaa.lawFnCompileShort
namespace Go.Proofs.Ytoebefpmfgkpoaa
set_option linter.unusedSimpArgs false
set_option linter.unusedVariables false
/-- The statement. -/
theorem FnCompileShort_proved : Rows.FnCompileShortSaid := lawFnCompileShort.over
#print axioms FnCompileShort_proved
end Go.Proofs.Ytoebefpmfgkpoaa
