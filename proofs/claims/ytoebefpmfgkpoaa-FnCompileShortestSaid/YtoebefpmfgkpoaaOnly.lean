/- Is a path the only shortest one between its ends: isOnly of the program, l5Only of the reference. -/
import Derived.Test.YtoebefpmfgkpoaaCost
import Derived.Test.YtoebefpmfgkpoaaCnt
import Derived.Test.YtoebefpmfgkpoaaLawC
import Derived.Test.YtoebefpmfgkpoaaLwS
namespace Go.Proofs.Ytoebefpmfgkpoaa
set_option linter.unusedSimpArgs false
set_option linter.unusedVariables false
open Go.RowKit

theorem last_ix {L : List Int} : ∀ {q : List Int} {x : Int}, L = x :: q → L[L.length - 1]? = some (lastN x q)
  | [], x, h => by subst h; rfl
  | y :: q, x, h => by
    subst h
    have := last_ix (L := y :: q) (q := q) (x := y) rfl
    simp only [List.length_cons, Nat.add_sub_cancel] at this ⊢
    rw [List.getElem?_cons_succ]
    exact this
theorem path_last {n : Int} {ls : List LinkD} {x : Int} {q : List Int} (h : pathOk n ls (x :: q) = true) : nd n.toNat (lastN x q) := by
  obtain ⟨hg, hn, hw, _⟩ := path_from h (t := 0) (x := x) rfl
  exact (isW_nd hg.fits.ok hn hw).1
set_option maxRecDepth 100000 in
set_option maxHeartbeats 4000000 in
theorem iOnly (n : Int) (ls : List LinkD) (x : Int) (q : List Int) (v u : Value) (w : World) (hv : TriplesAt w v ls) (hu : IntsAt w u (x :: q)) (hok : pathOk n ls (x :: q) = true) :
    Calls Try.prog 39 #[.agg #[.int .i64 n, v], u] w fun e w' => e = .returned (.bool (onlyG n ls x q)) ∧ Below w.heap.size w w' := by
  have HV := Lib.hid hv; have HU := Lib.hid hu
  obtain ⟨va, vm, vc, rfl⟩ := hv.form
  obtain ⟨a, cap, rfl, hcap, hmax⟩ := hu.form2
  obtain ⟨b, off, rfl, hbl⟩ := hu.some (by simp)
  have HOK := Lib.hid hok
  obtain ⟨hg, hn, hw, _⟩ := path_from hok (t := 0) (x := x) rfl
  have HG := Lib.hid hg; have HN := Lib.hid hn
  have HY := Lib.hid (path_last hok)
  obtain ⟨y, hy⟩ : ∃ y, lastN x q = y := ⟨_, rfl⟩
  rw [hy] at HY
  have HON := Lib.hid (only_eq hok hy)
  rw [HON.out]
  have d0 := hu.get (k := 0) (x := x) rfl
  have d1 := hu.get (last_ix (L := x :: q) rfl)
  rw [hy] at d1
  obtain ⟨m, hm⟩ : ∃ m, m = (x :: q).length := ⟨_, rfl⟩
  have hm1 : 1 ≤ m := by rw [hm]; simp
  rw [← hm] at hcap HU d1 ⊢
  have HM := Lib.hid hm
  have e0 := cell_lt d0
  have hk : (m:Int) - 1 < (m:Int) := by omega
  have hk0 : (0:Int) ≤ (m:Int) - 1 := by omega
  have hkn : ((m:Int) - 1).toNat = m - 1 := by omega
  have hmI : (0:Int) < (m:Int) := by omega
  unfold maxLen at hmax
  have ws : IntKind.i64.wrap ((m:Int) - 1) = (m:Int) - 1 := IntWalk.i64_in _ (by omega)
  simp only [Nat.add_zero] at d0
  obtain ⟨d, hd⟩ : ∃ d, distL n ls x = d := ⟨_, rfl⟩
  have HD := Lib.hid hd
  have HL : Hid (d.length = n.toNat) := Lib.hid (by rw [← hd]; exact distL_len n ls x)
  have hyn := hg.nN.1 HY.out
  obtain ⟨hy0, hyn1⟩ := hyn
  have hyl : y < (d.length : Int) := by have := HL.out; omega
  obtain ⟨D, hDD⟩ : ∃ D, distG n ls x y = D := ⟨_, rfl⟩
  have hdy : Hid (atD d y = D) := Lib.hid (by rw [← hDD, ← hd]; rfl)
  obtain ⟨C, hC⟩ : ∃ C, costD n ls (x :: q) = C := ⟨_, rfl⟩
  have HC := Lib.hid ((costD_ok hok).symm.trans hC)
  obtain ⟨K, hK⟩ : ∃ K, cntG n ls x y = K := ⟨_, rfl⟩
  have HK := Lib.hid hK
  rw [hDD, hC, hK]
  clear hv hu hok hg hn hw hd hm hC hK hDD hy HON hyn1
  go_enter Try.func39, Try.ntmps39
  go_wp2_with fail
  obtain ⟨w0, hw0⟩ : ∃ X, w.alloc (.cells #[.int .i64 n, .slice va vm vc] 25) = X := ⟨_, rfl⟩
  have G := Lib.hid (box_new w #[.int .i64 n, .slice va vm vc] 25)
  have BW : Hid (Below w.heap.size w (w.alloc (.cells #[.int .i64 n, .slice va vm vc] 25))) := Lib.hid (by with_reducible (repeat (first | (refine below_drewN ?_ _) | (refine Below.drew ?_) | (refine below_alloc ?_ (by first | omega | (simp; done) | (simp; omega)) _) | (refine Below.setCell ?_ (by first | omega | (simp; done) | (simp; omega)) _) | exact Below.refl _ _ | assumption | (refine below_call ?_ (by first | omega | (simp; done) | (simp; omega)) (by assumption)))))
  rw [hw0] at G BW ⊢
  clear hw0
  obtain ⟨I, φ, h0, hφ, hmk⟩ := famOf (w0).heap.size (w0)
  haveI : Nonempty I := h0.elim fun i _ => ⟨i⟩
  have H0 := Lib.hid h0; have HF := Lib.hid hφ; have HMK := Lib.hid hmk; have HBs : Hid ((w0).heap.size ≤ (w0).heap.size) := Lib.hid (Nat.le_refl _)
  clear h0 hφ hmk
  have HW : Hid (∀ i, Below w.heap.size w (φ i)) := Lib.hid fun i => BW.out.trans ((HF.out i).mono BW.out.size)
  have r0 : ∀ i, (φ i).cell? ⟨b, off, none⟩ = some (.int .i64 x) := fun i => cell_below (HW.out i) d0 e0
  have r1 : ∀ i, (φ i).cell? ⟨b, off + (m - 1), none⟩ = some (.int .i64 y) := fun i => cell_below (HW.out i) d1 e0
  refine wp_region_fam φ H0.out (by kernel_rfl) (by kernel_rfl) ?_
  repeat (go_big_quiet_step (fail))
  refine wpQuiet_nil ?_
  intro _ hw'
  obtain ⟨nq, hw''⟩ := hw'
  subst hw''
  have hb := HF.out nq
  obtain ⟨w1, hw2⟩ : ∃ x, φ nq = x := ⟨_, rfl⟩
  rw [hw2] at hb ⊢
  clear hw2
  clear r0 r1 HW
  replace G := Lib.hid (G.out.below hb G.out.lt)
  replace BW := Lib.hid (BW.out.trans (hb.mono BW.out.size))
  clear hb HF HBs HMK H0
  obtain ⟨b0, b1, f0, f1, hb0⟩ := box2 G.out
  go_wp2_with fail
  by_cases hCD : C = D
  · have e1 : (C == D) = true := by simpa using hCD
    have e2 : decide (C = D) = true := by simpa using hCD
    have e2 := Lib.hid e2
    clear hCD
    refine wp_region_noPanic ?_
    refine wp_region_held_drew (S := (fun w' => w'.cell? ⟨w.heap.size, 0, none⟩ = some (.int .i64 n) ∧ w'.cell? ⟨w.heap.size, 1, none⟩ = some (.slice va vm vc))) (by kernel_rfl) (by ((try dsimp only); (first | go_keep | exact ⟨b0, b1⟩))) (fun hHeld => ?_)
    refine wpAnyH_take (i := 0) (oi := _) (v := ?_) rfl (by kernel_rfl) (by kernel_rfl) (by kernel_rfl) (fun _ _ _ h => h) (Or.inl ⟨by rfl, ?_⟩) (by assumption) ?_
    rotate_left
    focus (intro w hSw; (try dsimp only at hSw); go_simp; try (with_reducible rfl))
    try simp only [List.getElem_toArray, List.getElem_cons_zero, List.getElem_cons_succ, Act.put, List.setIfInBounds_toArray, List.set_cons_zero, List.set_cons_succ]
    refine wpAnyH_take (i := 1) (oi := _) (v := ?_) rfl (by kernel_rfl) (by kernel_rfl) (by kernel_rfl) (fun _ _ _ h => h) (Or.inl ⟨by rfl, ?_⟩) (by assumption) ?_
    rotate_left
    focus (intro w hSw; (try dsimp only at hSw); go_simp; try (with_reducible rfl))
    try simp only [List.getElem_toArray, List.getElem_cons_zero, List.getElem_cons_succ, Act.put, List.setIfInBounds_toArray, List.set_cons_zero, List.set_cons_succ]
    refine wpAnyH_take (i := 3) (oi := _) (v := ?_) rfl (by kernel_rfl) (by kernel_rfl) (by kernel_rfl) (fun _ _ _ h => h) (Or.inl ⟨by rfl, ?_⟩) (by assumption) ?_
    rotate_left
    focus (intro w hSw; (try dsimp only at hSw); go_simp; try (with_reducible rfl))
    try simp only [List.getElem_toArray, List.getElem_cons_zero, List.getElem_cons_succ, Act.put, List.setIfInBounds_toArray, List.set_cons_zero, List.set_cons_succ]
    refine wpAnyH_take (i := 4) (oi := _) (v := ?_) rfl (by kernel_rfl) (by kernel_rfl) (by kernel_rfl) (fun _ _ _ h => h) (Or.inl ⟨by rfl, ?_⟩) (by assumption) ?_
    rotate_left
    focus (intro w hSw; (try dsimp only at hSw); go_simp; try (with_reducible rfl))
    try simp only [List.getElem_toArray, List.getElem_cons_zero, List.getElem_cons_succ, Act.put, List.setIfInBounds_toArray, List.set_cons_zero, List.set_cons_succ]
    refine wpAnyH_take (i := 6) (oi := _) (v := ?_) rfl (by kernel_rfl) (by kernel_rfl) (by kernel_rfl) (fun _ _ _ h => h) (Or.inl ⟨by rfl, ?_⟩) (by assumption) ?_
    rotate_left
    focus (intro w hSw; (try dsimp only at hSw); go_simp; try (with_reducible rfl))
    try simp only [List.getElem_toArray, List.getElem_cons_zero, List.getElem_cons_succ, Act.put, List.setIfInBounds_toArray, List.set_cons_zero, List.set_cons_succ]
    refine wpAnyH_ready (rs := [2]) (by kernel_rfl) (by simp) ?_
    refine AllReadyH.cons (o := _) rfl (fun K hK => ?_) AllReadyH.nil
    go_simp
    (go_at_call 46; refine (iPCost n ls (x :: q) _ _ _ (HV.out.below BW.out.drew (Nat.le_refl _)) (HU.out.below BW.out.drew (Nat.le_refl _)) HOK.out).mono ?_; rw [HC.out]; rintro e w2 ⟨rfl, hb⟩; replace G := Lib.hid (G.out.drew.below hb G.out.lt); replace BW := Lib.hid (BW.out.drew.trans (hb.mono BW.out.drew.size)); clear hb b0 b1 f0 f1 hb0; obtain ⟨b0, b1, f0, f1, hb0⟩ := box2 G.out)
    refine hK.out _ _ (by ((try dsimp only); (first | go_keep | exact ⟨b0, b1⟩))) (fun hHeld => ?_)
    clear hK K
    try simp only [List.getElem_toArray, List.getElem_cons_zero, List.getElem_cons_succ, Act.put, List.setIfInBounds_toArray, List.set_cons_zero, List.set_cons_succ]
    refine wpAnyH_ready (rs := [5]) (by kernel_rfl) (by simp) ?_
    refine AllReadyH.cons (o := _) rfl (fun K hK => ?_) AllReadyH.nil
    go_simp
    (go_at_call 45; refine (iDist n ls x _ _ (HV.out.below BW.out (Nat.le_refl _)) HG.out HN.out).mono ?_; rintro e w3 ⟨v1, rfl, hO, hb⟩; rw [HD.out] at hO; obtain ⟨g1, c1, hgc, hlo⟩ := own_pos hO.1 (by have := HL.out; omega); subst hgc; obtain ⟨r0, _⟩ := row_at hO.1 rfl (show nd d.length y by rw [HL.out]; exact HY.out); rw [hdy.out] at r0; replace G := Lib.hid (G.out.below hb G.out.lt); replace BW := Lib.hid (BW.out.trans (hb.mono BW.out.size)); clear hO hlo hb b0 b1 f0 f1 hb0; obtain ⟨b0, b1, f0, f1, hb0⟩ := box2 G.out)
    refine hK.out _ _ (by ((try dsimp only); (first | go_keep | exact ⟨b0, b1⟩))) (fun hHeld => ?_)
    clear hK K
    try simp only [List.getElem_toArray, List.getElem_cons_zero, List.getElem_cons_succ, Act.put, List.setIfInBounds_toArray, List.set_cons_zero, List.set_cons_succ]
    refine wpAnyH_take (i := 7) (oi := _) (v := ?_) rfl (by kernel_rfl) (by kernel_rfl) (by kernel_rfl) (fun _ _ _ h => h) (Or.inl ⟨by rfl, ?_⟩) (by assumption) ?_
    rotate_left
    focus (intro w hSw; (try dsimp only at hSw); go_simp; try (with_reducible rfl))
    try simp only [List.getElem_toArray, List.getElem_cons_zero, List.getElem_cons_succ, Act.put, List.setIfInBounds_toArray, List.set_cons_zero, List.set_cons_succ]
    refine wpAnyH_ready (rs := [8]) (by kernel_rfl) (by simp) ?_
    refine AllReadyH.cons (o := _) rfl (fun K hK => ?_) AllReadyH.nil
    go_simp
    refine hK.out _ _ (by ((try dsimp only); (first | go_keep | exact ⟨b0, b1⟩))) (fun hHeld => ?_)
    clear hK K
    try simp only [List.getElem_toArray, List.getElem_cons_zero, List.getElem_cons_succ, Act.put, List.setIfInBounds_toArray, List.set_cons_zero, List.set_cons_succ]
    refine wpAnyH_take (i := 9) (oi := _) (v := ?_) rfl (by kernel_rfl) (by kernel_rfl) (by kernel_rfl) (fun _ _ _ h => h) (Or.inl ⟨by rfl, ?_⟩) (by assumption) ?_
    rotate_left
    focus (intro w hSw; (try dsimp only at hSw); go_simp; try (with_reducible rfl))
    try simp only [List.getElem_toArray, List.getElem_cons_zero, List.getElem_cons_succ, Act.put, List.setIfInBounds_toArray, List.set_cons_zero, List.set_cons_succ]
    refine wpAnyH_take (i := 10) (oi := _) (v := ?_) rfl (by kernel_rfl) (by kernel_rfl) (by kernel_rfl) (fun _ _ _ h => h) (Or.inl ⟨by rfl, ?_⟩) (by assumption) ?_
    rotate_left
    focus (intro w hSw; (try dsimp only at hSw); go_simp; try (with_reducible rfl))
    try simp only [List.getElem_toArray, List.getElem_cons_zero, List.getElem_cons_succ, Act.put, List.setIfInBounds_toArray, List.set_cons_zero, List.set_cons_succ]
    refine wpAnyH_take (i := 11) (oi := _) (v := ?_) rfl (by kernel_rfl) (by kernel_rfl) (by kernel_rfl) (fun _ _ _ h => h) (Or.inl ⟨by rfl, ?_⟩) (by assumption) ?_
    rotate_left
    focus (intro w hSw; (try dsimp only at hSw); go_simp; try (with_reducible rfl))
    try simp only [List.getElem_toArray, List.getElem_cons_zero, List.getElem_cons_succ, Act.put, List.setIfInBounds_toArray, List.set_cons_zero, List.set_cons_succ]
    refine wpAnyH_take (i := 12) (oi := _) (v := ?_) rfl (by kernel_rfl) (by kernel_rfl) (by kernel_rfl) (fun _ _ _ h => h) (Or.inl ⟨by rfl, ?_⟩) (by assumption) ?_
    rotate_left
    focus (intro w hSw; (try dsimp only at hSw); go_simp; try (with_reducible rfl))
    try simp only [List.getElem_toArray, List.getElem_cons_zero, List.getElem_cons_succ, Act.put, List.setIfInBounds_toArray, List.set_cons_zero, List.set_cons_succ]
    refine wpAnyH_take (i := 13) (oi := _) (v := ?_) rfl (by kernel_rfl) (by kernel_rfl) (by kernel_rfl) (fun _ _ _ h => h) (Or.inl ⟨by rfl, ?_⟩) (by assumption) ?_
    rotate_left
    focus (intro w hSw; (try dsimp only at hSw); go_simp; try (with_reducible rfl))
    try simp only [List.getElem_toArray, List.getElem_cons_zero, List.getElem_cons_succ, Act.put, List.setIfInBounds_toArray, List.set_cons_zero, List.set_cons_succ]
    refine wpAnyH_ready (rs := [14]) (by kernel_rfl) (by simp) ?_
    refine AllReadyH.cons (o := _) rfl (fun K hK => ?_) AllReadyH.nil
    go_simp
    (go_at_call 50; refine (iCnt n ls x y _ _ (HV.out.below BW.out (Nat.le_refl _)) HG.out HN.out HY.out).mono ?_; rw [HK.out]; rintro e w4 ⟨rfl, hb⟩; replace G := Lib.hid (G.out.below hb G.out.lt); replace BW := Lib.hid (BW.out.trans (hb.mono BW.out.size)); clear hb b0 b1 f0 f1 hb0 r0; obtain ⟨b0, b1, f0, f1, hb0⟩ := box2 G.out)
    refine hK.out _ _ (by ((try dsimp only); (first | go_keep | exact ⟨b0, b1⟩))) (fun hHeld => ?_)
    clear hK K
    try simp only [List.getElem_toArray, List.getElem_cons_zero, List.getElem_cons_succ, Act.put, List.setIfInBounds_toArray, List.set_cons_zero, List.set_cons_succ]
    refine wpAnyH_take (i := 15) (oi := _) (v := ?_) rfl (by kernel_rfl) (by kernel_rfl) (by kernel_rfl) (fun _ _ _ h => h) (Or.inl ⟨by rfl, ?_⟩) (by assumption) ?_
    rotate_left
    focus (intro w hSw; (try dsimp only at hSw); go_simp; try (with_reducible rfl))
    try simp only [List.getElem_toArray, List.getElem_cons_zero, List.getElem_cons_succ, Act.put, List.setIfInBounds_toArray, List.set_cons_zero, List.set_cons_succ]
    refine wpAnyH_take (i := 16) (oi := _) (v := ?_) rfl (by kernel_rfl) (by kernel_rfl) (by kernel_rfl) (fun _ _ _ h => h) (Or.inl ⟨by rfl, ?_⟩) (by assumption) ?_
    rotate_left
    focus (intro w hSw; (try dsimp only at hSw); go_simp; try (with_reducible rfl))
    try simp only [List.getElem_toArray, List.getElem_cons_zero, List.getElem_cons_succ, Act.put, List.setIfInBounds_toArray, List.set_cons_zero, List.set_cons_succ]
    refine wpAnyH_take (i := 17) (oi := _) (v := ?_) rfl (by kernel_rfl) (by kernel_rfl) (by kernel_rfl) (fun _ _ _ h => h) (Or.inl ⟨by rfl, ?_⟩) (by assumption) ?_
    rotate_left
    focus (intro w hSw; (try dsimp only at hSw); go_simp; try (with_reducible rfl))
    try simp only [List.getElem_toArray, List.getElem_cons_zero, List.getElem_cons_succ, Act.put, List.setIfInBounds_toArray, List.set_cons_zero, List.set_cons_succ]
    refine wpAnyH_done (by kernel_rfl) ?_ _
    refine NoPanic.normal ?_
    go_wp2_with fail
    go_ret
    exact ⟨ret_bool (by rw [e2.out, Bool.true_and]; rfl), BW.out⟩
  · have e1 : (C == D) = false := by simpa using hCD
    have e2 : decide (C = D) = false := by simpa using hCD
    have e2 := Lib.hid e2
    clear hCD
    refine wp_region_noPanic ?_
    refine wp_region_held_drew (S := (fun w' => w'.cell? ⟨w.heap.size, 0, none⟩ = some (.int .i64 n) ∧ w'.cell? ⟨w.heap.size, 1, none⟩ = some (.slice va vm vc))) (by kernel_rfl) (by ((try dsimp only); (first | go_keep | exact ⟨b0, b1⟩))) (fun hHeld => ?_)
    refine wpAnyH_take (i := 0) (oi := _) (v := ?_) rfl (by kernel_rfl) (by kernel_rfl) (by kernel_rfl) (fun _ _ _ h => h) (Or.inl ⟨by rfl, ?_⟩) (by assumption) ?_
    rotate_left
    focus (intro w hSw; (try dsimp only at hSw); go_simp; try (with_reducible rfl))
    try simp only [List.getElem_toArray, List.getElem_cons_zero, List.getElem_cons_succ, Act.put, List.setIfInBounds_toArray, List.set_cons_zero, List.set_cons_succ]
    refine wpAnyH_take (i := 1) (oi := _) (v := ?_) rfl (by kernel_rfl) (by kernel_rfl) (by kernel_rfl) (fun _ _ _ h => h) (Or.inl ⟨by rfl, ?_⟩) (by assumption) ?_
    rotate_left
    focus (intro w hSw; (try dsimp only at hSw); go_simp; try (with_reducible rfl))
    try simp only [List.getElem_toArray, List.getElem_cons_zero, List.getElem_cons_succ, Act.put, List.setIfInBounds_toArray, List.set_cons_zero, List.set_cons_succ]
    refine wpAnyH_take (i := 3) (oi := _) (v := ?_) rfl (by kernel_rfl) (by kernel_rfl) (by kernel_rfl) (fun _ _ _ h => h) (Or.inl ⟨by rfl, ?_⟩) (by assumption) ?_
    rotate_left
    focus (intro w hSw; (try dsimp only at hSw); go_simp; try (with_reducible rfl))
    try simp only [List.getElem_toArray, List.getElem_cons_zero, List.getElem_cons_succ, Act.put, List.setIfInBounds_toArray, List.set_cons_zero, List.set_cons_succ]
    refine wpAnyH_take (i := 4) (oi := _) (v := ?_) rfl (by kernel_rfl) (by kernel_rfl) (by kernel_rfl) (fun _ _ _ h => h) (Or.inl ⟨by rfl, ?_⟩) (by assumption) ?_
    rotate_left
    focus (intro w hSw; (try dsimp only at hSw); go_simp; try (with_reducible rfl))
    try simp only [List.getElem_toArray, List.getElem_cons_zero, List.getElem_cons_succ, Act.put, List.setIfInBounds_toArray, List.set_cons_zero, List.set_cons_succ]
    refine wpAnyH_take (i := 6) (oi := _) (v := ?_) rfl (by kernel_rfl) (by kernel_rfl) (by kernel_rfl) (fun _ _ _ h => h) (Or.inl ⟨by rfl, ?_⟩) (by assumption) ?_
    rotate_left
    focus (intro w hSw; (try dsimp only at hSw); go_simp; try (with_reducible rfl))
    try simp only [List.getElem_toArray, List.getElem_cons_zero, List.getElem_cons_succ, Act.put, List.setIfInBounds_toArray, List.set_cons_zero, List.set_cons_succ]
    refine wpAnyH_ready (rs := [2]) (by kernel_rfl) (by simp) ?_
    refine AllReadyH.cons (o := _) rfl (fun K hK => ?_) AllReadyH.nil
    go_simp
    (go_at_call 46; refine (iPCost n ls (x :: q) _ _ _ (HV.out.below BW.out.drew (Nat.le_refl _)) (HU.out.below BW.out.drew (Nat.le_refl _)) HOK.out).mono ?_; rw [HC.out]; rintro e w2 ⟨rfl, hb⟩; replace G := Lib.hid (G.out.drew.below hb G.out.lt); replace BW := Lib.hid (BW.out.drew.trans (hb.mono BW.out.drew.size)); clear hb b0 b1 f0 f1 hb0; obtain ⟨b0, b1, f0, f1, hb0⟩ := box2 G.out)
    refine hK.out _ _ (by ((try dsimp only); (first | go_keep | exact ⟨b0, b1⟩))) (fun hHeld => ?_)
    clear hK K
    try simp only [List.getElem_toArray, List.getElem_cons_zero, List.getElem_cons_succ, Act.put, List.setIfInBounds_toArray, List.set_cons_zero, List.set_cons_succ]
    refine wpAnyH_ready (rs := [5]) (by kernel_rfl) (by simp) ?_
    refine AllReadyH.cons (o := _) rfl (fun K hK => ?_) AllReadyH.nil
    go_simp
    (go_at_call 45; refine (iDist n ls x _ _ (HV.out.below BW.out (Nat.le_refl _)) HG.out HN.out).mono ?_; rintro e w3 ⟨v1, rfl, hO, hb⟩; rw [HD.out] at hO; obtain ⟨g1, c1, hgc, hlo⟩ := own_pos hO.1 (by have := HL.out; omega); subst hgc; obtain ⟨r0, _⟩ := row_at hO.1 rfl (show nd d.length y by rw [HL.out]; exact HY.out); rw [hdy.out] at r0; replace G := Lib.hid (G.out.below hb G.out.lt); replace BW := Lib.hid (BW.out.trans (hb.mono BW.out.size)); clear hO hlo hb b0 b1 f0 f1 hb0; obtain ⟨b0, b1, f0, f1, hb0⟩ := box2 G.out)
    refine hK.out _ _ (by ((try dsimp only); (first | go_keep | exact ⟨b0, b1⟩))) (fun hHeld => ?_)
    clear hK K
    try simp only [List.getElem_toArray, List.getElem_cons_zero, List.getElem_cons_succ, Act.put, List.setIfInBounds_toArray, List.set_cons_zero, List.set_cons_succ]
    refine wpAnyH_take (i := 7) (oi := _) (v := ?_) rfl (by kernel_rfl) (by kernel_rfl) (by kernel_rfl) (fun _ _ _ h => h) (Or.inl ⟨by rfl, ?_⟩) (by assumption) ?_
    rotate_left
    focus (intro w hSw; (try dsimp only at hSw); go_simp; try (with_reducible rfl))
    try simp only [List.getElem_toArray, List.getElem_cons_zero, List.getElem_cons_succ, Act.put, List.setIfInBounds_toArray, List.set_cons_zero, List.set_cons_succ]
    refine wpAnyH_ready (rs := [8]) (by kernel_rfl) (by simp) ?_
    refine AllReadyH.cons (o := _) rfl (fun K hK => ?_) AllReadyH.nil
    go_simp
    refine hK.out _ _ (by ((try dsimp only); (first | go_keep | exact ⟨b0, b1⟩))) (fun hHeld => ?_)
    clear hK K
    try simp only [List.getElem_toArray, List.getElem_cons_zero, List.getElem_cons_succ, Act.put, List.setIfInBounds_toArray, List.set_cons_zero, List.set_cons_succ]
    refine wpAnyH_take (i := 9) (oi := _) (v := ?_) rfl (by kernel_rfl) (by kernel_rfl) (by kernel_rfl) (fun _ _ _ h => h) (Or.inl ⟨by rfl, ?_⟩) (by assumption) ?_
    rotate_left
    focus (intro w hSw; (try dsimp only at hSw); go_simp; try (with_reducible rfl))
    try simp only [List.getElem_toArray, List.getElem_cons_zero, List.getElem_cons_succ, Act.put, List.setIfInBounds_toArray, List.set_cons_zero, List.set_cons_succ]
    refine wpAnyH_take (i := 10) (oi := _) (v := ?_) rfl (by kernel_rfl) (by kernel_rfl) (by kernel_rfl) (fun _ _ _ h => h) (Or.inl ⟨by rfl, ?_⟩) (by assumption) ?_
    rotate_left
    focus (intro w hSw; (try dsimp only at hSw); go_simp; try (with_reducible rfl))
    try simp only [List.getElem_toArray, List.getElem_cons_zero, List.getElem_cons_succ, Act.put, List.setIfInBounds_toArray, List.set_cons_zero, List.set_cons_succ]
    refine wpAnyH_take (i := 11) (oi := _) (v := Go.undef) rfl (by kernel_rfl) (by kernel_rfl) (by kernel_rfl) (fun _ _ _ h => h) (Or.inr ⟨by rfl, rfl⟩) (by assumption) ?_
    try simp only [List.getElem_toArray, List.getElem_cons_zero, List.getElem_cons_succ, Act.put, List.setIfInBounds_toArray, List.set_cons_zero, List.set_cons_succ]
    refine wpAnyH_take (i := 12) (oi := _) (v := Go.undef) rfl (by kernel_rfl) (by kernel_rfl) (by kernel_rfl) (fun _ _ _ h => h) (Or.inr ⟨by rfl, rfl⟩) (by assumption) ?_
    try simp only [List.getElem_toArray, List.getElem_cons_zero, List.getElem_cons_succ, Act.put, List.setIfInBounds_toArray, List.set_cons_zero, List.set_cons_succ]
    refine wpAnyH_take (i := 13) (oi := _) (v := Go.undef) rfl (by kernel_rfl) (by kernel_rfl) (by kernel_rfl) (fun _ _ _ h => h) (Or.inr ⟨by rfl, rfl⟩) (by assumption) ?_
    try simp only [List.getElem_toArray, List.getElem_cons_zero, List.getElem_cons_succ, Act.put, List.setIfInBounds_toArray, List.set_cons_zero, List.set_cons_succ]
    refine wpAnyH_take (i := 14) (oi := _) (v := Go.undef) rfl (by kernel_rfl) (by kernel_rfl) (by kernel_rfl) (fun _ _ _ h => h) (Or.inr ⟨by rfl, rfl⟩) (by assumption) ?_
    try simp only [List.getElem_toArray, List.getElem_cons_zero, List.getElem_cons_succ, Act.put, List.setIfInBounds_toArray, List.set_cons_zero, List.set_cons_succ]
    refine wpAnyH_take (i := 15) (oi := _) (v := Go.undef) rfl (by kernel_rfl) (by kernel_rfl) (by kernel_rfl) (fun _ _ _ h => h) (Or.inr ⟨by rfl, rfl⟩) (by assumption) ?_
    try simp only [List.getElem_toArray, List.getElem_cons_zero, List.getElem_cons_succ, Act.put, List.setIfInBounds_toArray, List.set_cons_zero, List.set_cons_succ]
    refine wpAnyH_take (i := 16) (oi := _) (v := ?_) rfl (by kernel_rfl) (by kernel_rfl) (by kernel_rfl) (fun _ _ _ h => h) (Or.inl ⟨by rfl, ?_⟩) (by assumption) ?_
    rotate_left
    focus (intro w hSw; (try dsimp only at hSw); go_simp; try (with_reducible rfl))
    try simp only [List.getElem_toArray, List.getElem_cons_zero, List.getElem_cons_succ, Act.put, List.setIfInBounds_toArray, List.set_cons_zero, List.set_cons_succ]
    refine wpAnyH_take (i := 17) (oi := _) (v := ?_) rfl (by kernel_rfl) (by kernel_rfl) (by kernel_rfl) (fun _ _ _ h => h) (Or.inl ⟨by rfl, ?_⟩) (by assumption) ?_
    rotate_left
    focus (intro w hSw; (try dsimp only at hSw); go_simp; try (with_reducible rfl))
    try simp only [List.getElem_toArray, List.getElem_cons_zero, List.getElem_cons_succ, Act.put, List.setIfInBounds_toArray, List.set_cons_zero, List.set_cons_succ]
    refine wpAnyH_done (by kernel_rfl) ?_ _
    refine NoPanic.normal ?_
    go_wp2_with fail
    go_ret
    exact ⟨ret_bool (by rw [e2.out]; simp), BW.out⟩
set_option maxRecDepth 100000 in
set_option maxHeartbeats 4000000 in
theorem sOnly (n : Int) (ls : List LinkD) (x : Int) (q : List Int) (v u : Value) (w : World) (hv : TriplesAt w v ls) (hu : IntsAt w u (x :: q)) (hok : pathOk n ls (x :: q) = true) :
    Calls Try.prog 42 #[.agg #[.int .i64 n, v], u] w fun e w' => e = .returned (.bool (onlyG n ls x q)) ∧ Below w.heap.size w w' := by
  have HV := Lib.hid hv; have HU := Lib.hid hu
  obtain ⟨va, vm, vc, rfl⟩ := hv.form
  obtain ⟨a, cap, rfl, hcap, hmax⟩ := hu.form2
  obtain ⟨b, off, rfl, hbl⟩ := hu.some (by simp)
  have HOK := Lib.hid hok
  obtain ⟨hg, hn, hw, _⟩ := path_from hok (t := 0) (x := x) rfl
  have HG := Lib.hid hg; have HN := Lib.hid hn
  have HY := Lib.hid (path_last hok)
  obtain ⟨y, hy⟩ : ∃ y, lastN x q = y := ⟨_, rfl⟩
  rw [hy] at HY
  have HON := Lib.hid (only_eq hok hy)
  rw [HON.out]
  have d0 := hu.get (k := 0) (x := x) rfl
  have d1 := hu.get (last_ix (L := x :: q) rfl)
  rw [hy] at d1
  obtain ⟨m, hm⟩ : ∃ m, m = (x :: q).length := ⟨_, rfl⟩
  have hm1 : 1 ≤ m := by rw [hm]; simp
  rw [← hm] at hcap HU d1 ⊢
  have HM := Lib.hid hm
  have e0 := cell_lt d0
  have hk : (m:Int) - 1 < (m:Int) := by omega
  have hk0 : (0:Int) ≤ (m:Int) - 1 := by omega
  have hkn : ((m:Int) - 1).toNat = m - 1 := by omega
  have hmI : (0:Int) < (m:Int) := by omega
  unfold maxLen at hmax
  have ws : IntKind.i64.wrap ((m:Int) - 1) = (m:Int) - 1 := IntWalk.i64_in _ (by omega)
  simp only [Nat.add_zero] at d0
  obtain ⟨d, hd⟩ : ∃ d, distL n ls x = d := ⟨_, rfl⟩
  have HD := Lib.hid hd
  have HL : Hid (d.length = n.toNat) := Lib.hid (by rw [← hd]; exact distL_len n ls x)
  have hyn := hg.nN.1 HY.out
  obtain ⟨hy0, hyn1⟩ := hyn
  have hyl : y < (d.length : Int) := by have := HL.out; omega
  obtain ⟨D, hDD⟩ : ∃ D, distG n ls x y = D := ⟨_, rfl⟩
  have hdy : Hid (atD d y = D) := Lib.hid (by rw [← hDD, ← hd]; rfl)
  obtain ⟨C, hC⟩ : ∃ C, costD n ls (x :: q) = C := ⟨_, rfl⟩
  have HC := Lib.hid ((costD_ok hok).symm.trans hC)
  obtain ⟨K, hK⟩ : ∃ K, cntG n ls x y = K := ⟨_, rfl⟩
  have HK := Lib.hid hK
  rw [hDD, hC, hK]
  clear hv hu hok hg hn hw hd hm hC hK hDD hy HON hyn1
  go_enter Try.func42, Try.ntmps42
  have r0 := cell_alloc d0 (.cells #[.int .i64 n, .slice va vm vc] 25)
  have r1 := cell_alloc d1 (.cells #[.int .i64 n, .slice va vm vc] 25)
  go_wp2_with fail
  have G := Lib.hid (box_new w #[.int .i64 n, .slice va vm vc] 25)
  have BW : Hid (Below w.heap.size w (w.alloc (.cells #[.int .i64 n, .slice va vm vc] 25))) := Lib.hid (by with_reducible (repeat (first | (refine below_drewN ?_ _) | (refine Below.drew ?_) | (refine below_alloc ?_ (by first | omega | (simp; done) | (simp; omega)) _) | (refine Below.setCell ?_ (by first | omega | (simp; done) | (simp; omega)) _) | exact Below.refl _ _ | assumption | (refine below_call ?_ (by first | omega | (simp; done) | (simp; omega)) (by assumption)))))
  obtain ⟨w1, hw0⟩ : ∃ X, w.alloc (.cells #[.int .i64 n, .slice va vm vc] 25) = X := ⟨_, rfl⟩
  rw [hw0] at G BW ⊢
  clear hw0
  obtain ⟨b0, b1, f0, f1, hb0⟩ := box2 G.out
  go_wp2_with fail
  by_cases hCD : C = D
  · have e1 : (C == D) = true := by simpa using hCD
    have e2 : decide (C = D) = true := by simpa using hCD
    have e2 := Lib.hid e2
    clear hCD
    refine wp_region_noPanic ?_
    refine wp_region_held_drew (S := (fun w' => w'.cell? ⟨w.heap.size, 0, none⟩ = some (.int .i64 n) ∧ w'.cell? ⟨w.heap.size, 1, none⟩ = some (.slice va vm vc))) (by kernel_rfl) (by ((try dsimp only); (first | go_keep | exact ⟨b0, b1⟩))) (fun hHeld => ?_)
    refine wpAnyH_take (i := 0) (oi := _) (v := ?_) rfl (by kernel_rfl) (by kernel_rfl) (by kernel_rfl) (fun _ _ _ h => h) (Or.inl ⟨by rfl, ?_⟩) (by assumption) ?_
    rotate_left
    focus (intro w hSw; (try dsimp only at hSw); go_simp; try (with_reducible rfl))
    try simp only [List.getElem_toArray, List.getElem_cons_zero, List.getElem_cons_succ, Act.put, List.setIfInBounds_toArray, List.set_cons_zero, List.set_cons_succ]
    refine wpAnyH_take (i := 1) (oi := _) (v := ?_) rfl (by kernel_rfl) (by kernel_rfl) (by kernel_rfl) (fun _ _ _ h => h) (Or.inl ⟨by rfl, ?_⟩) (by assumption) ?_
    rotate_left
    focus (intro w hSw; (try dsimp only at hSw); go_simp; try (with_reducible rfl))
    try simp only [List.getElem_toArray, List.getElem_cons_zero, List.getElem_cons_succ, Act.put, List.setIfInBounds_toArray, List.set_cons_zero, List.set_cons_succ]
    refine wpAnyH_take (i := 3) (oi := _) (v := ?_) rfl (by kernel_rfl) (by kernel_rfl) (by kernel_rfl) (fun _ _ _ h => h) (Or.inl ⟨by rfl, ?_⟩) (by assumption) ?_
    rotate_left
    focus (intro w hSw; (try dsimp only at hSw); go_simp; try (with_reducible rfl))
    try simp only [List.getElem_toArray, List.getElem_cons_zero, List.getElem_cons_succ, Act.put, List.setIfInBounds_toArray, List.set_cons_zero, List.set_cons_succ]
    refine wpAnyH_take (i := 4) (oi := _) (v := ?_) rfl (by kernel_rfl) (by kernel_rfl) (by kernel_rfl) (fun _ _ _ h => h) (Or.inl ⟨by rfl, ?_⟩) (by assumption) ?_
    rotate_left
    focus (intro w hSw; (try dsimp only at hSw); go_simp; try (with_reducible rfl))
    try simp only [List.getElem_toArray, List.getElem_cons_zero, List.getElem_cons_succ, Act.put, List.setIfInBounds_toArray, List.set_cons_zero, List.set_cons_succ]
    refine wpAnyH_take (i := 6) (oi := _) (v := ?_) rfl (by kernel_rfl) (by kernel_rfl) (by kernel_rfl) (fun _ _ _ h => h) (Or.inl ⟨by rfl, ?_⟩) (by assumption) ?_
    rotate_left
    focus (intro w hSw; (try dsimp only at hSw); go_simp; try (with_reducible rfl))
    try simp only [List.getElem_toArray, List.getElem_cons_zero, List.getElem_cons_succ, Act.put, List.setIfInBounds_toArray, List.set_cons_zero, List.set_cons_succ]
    refine wpAnyH_ready (rs := [2]) (by kernel_rfl) (by simp) ?_
    refine AllReadyH.cons (o := _) rfl (fun K hK => ?_) AllReadyH.nil
    go_simp
    (go_at_call 73; refine (sPCost n ls (x :: q) _ _ _ (HV.out.below BW.out.drew (Nat.le_refl _)) (HU.out.below BW.out.drew (Nat.le_refl _)) HOK.out).mono ?_; rw [HC.out]; rintro e w2 ⟨rfl, hb⟩; replace G := Lib.hid (G.out.drew.below hb G.out.lt); replace BW := Lib.hid (BW.out.drew.trans (hb.mono BW.out.drew.size)); clear hb b0 b1 f0 f1 hb0; obtain ⟨b0, b1, f0, f1, hb0⟩ := box2 G.out)
    refine hK.out _ _ (by ((try dsimp only); (first | go_keep | exact ⟨b0, b1⟩))) (fun hHeld => ?_)
    clear hK K
    try simp only [List.getElem_toArray, List.getElem_cons_zero, List.getElem_cons_succ, Act.put, List.setIfInBounds_toArray, List.set_cons_zero, List.set_cons_succ]
    refine wpAnyH_ready (rs := [5]) (by kernel_rfl) (by simp) ?_
    refine AllReadyH.cons (o := _) rfl (fun K hK => ?_) AllReadyH.nil
    go_simp
    (go_at_call 74; refine (sDist n ls x _ _ (HV.out.below BW.out (Nat.le_refl _)) HG.out HN.out).mono ?_; rintro e w3 ⟨v1, rfl, hO, hb⟩; rw [HD.out] at hO; obtain ⟨g1, c1, hgc, hlo⟩ := own_pos hO.1 (by have := HL.out; omega); subst hgc; obtain ⟨r0, _⟩ := row_at hO.1 rfl (show nd d.length y by rw [HL.out]; exact HY.out); rw [hdy.out] at r0; replace G := Lib.hid (G.out.below hb G.out.lt); replace BW := Lib.hid (BW.out.trans (hb.mono BW.out.size)); clear hO hlo hb b0 b1 f0 f1 hb0; obtain ⟨b0, b1, f0, f1, hb0⟩ := box2 G.out)
    refine hK.out _ _ (by ((try dsimp only); (first | go_keep | exact ⟨b0, b1⟩))) (fun hHeld => ?_)
    clear hK K
    try simp only [List.getElem_toArray, List.getElem_cons_zero, List.getElem_cons_succ, Act.put, List.setIfInBounds_toArray, List.set_cons_zero, List.set_cons_succ]
    refine wpAnyH_take (i := 7) (oi := _) (v := ?_) rfl (by kernel_rfl) (by kernel_rfl) (by kernel_rfl) (fun _ _ _ h => h) (Or.inl ⟨by rfl, ?_⟩) (by assumption) ?_
    rotate_left
    focus (intro w hSw; (try dsimp only at hSw); go_simp; try (with_reducible rfl))
    try simp only [List.getElem_toArray, List.getElem_cons_zero, List.getElem_cons_succ, Act.put, List.setIfInBounds_toArray, List.set_cons_zero, List.set_cons_succ]
    refine wpAnyH_ready (rs := [8]) (by kernel_rfl) (by simp) ?_
    refine AllReadyH.cons (o := _) rfl (fun K hK => ?_) AllReadyH.nil
    go_simp
    refine hK.out _ _ (by ((try dsimp only); (first | go_keep | exact ⟨b0, b1⟩))) (fun hHeld => ?_)
    clear hK K
    try simp only [List.getElem_toArray, List.getElem_cons_zero, List.getElem_cons_succ, Act.put, List.setIfInBounds_toArray, List.set_cons_zero, List.set_cons_succ]
    refine wpAnyH_take (i := 9) (oi := _) (v := ?_) rfl (by kernel_rfl) (by kernel_rfl) (by kernel_rfl) (fun _ _ _ h => h) (Or.inl ⟨by rfl, ?_⟩) (by assumption) ?_
    rotate_left
    focus (intro w hSw; (try dsimp only at hSw); go_simp; try (with_reducible rfl))
    try simp only [List.getElem_toArray, List.getElem_cons_zero, List.getElem_cons_succ, Act.put, List.setIfInBounds_toArray, List.set_cons_zero, List.set_cons_succ]
    refine wpAnyH_take (i := 10) (oi := _) (v := ?_) rfl (by kernel_rfl) (by kernel_rfl) (by kernel_rfl) (fun _ _ _ h => h) (Or.inl ⟨by rfl, ?_⟩) (by assumption) ?_
    rotate_left
    focus (intro w hSw; (try dsimp only at hSw); go_simp; try (with_reducible rfl))
    try simp only [List.getElem_toArray, List.getElem_cons_zero, List.getElem_cons_succ, Act.put, List.setIfInBounds_toArray, List.set_cons_zero, List.set_cons_succ]
    refine wpAnyH_take (i := 11) (oi := _) (v := ?_) rfl (by kernel_rfl) (by kernel_rfl) (by kernel_rfl) (fun _ _ _ h => h) (Or.inl ⟨by rfl, ?_⟩) (by assumption) ?_
    rotate_left
    focus (intro w hSw; (try dsimp only at hSw); go_simp; try (with_reducible rfl))
    try simp only [List.getElem_toArray, List.getElem_cons_zero, List.getElem_cons_succ, Act.put, List.setIfInBounds_toArray, List.set_cons_zero, List.set_cons_succ]
    refine wpAnyH_take (i := 12) (oi := _) (v := ?_) rfl (by kernel_rfl) (by kernel_rfl) (by kernel_rfl) (fun _ _ _ h => h) (Or.inl ⟨by rfl, ?_⟩) (by assumption) ?_
    rotate_left
    focus (intro w hSw; (try dsimp only at hSw); go_simp; try (with_reducible rfl))
    try simp only [List.getElem_toArray, List.getElem_cons_zero, List.getElem_cons_succ, Act.put, List.setIfInBounds_toArray, List.set_cons_zero, List.set_cons_succ]
    refine wpAnyH_take (i := 13) (oi := _) (v := ?_) rfl (by kernel_rfl) (by kernel_rfl) (by kernel_rfl) (fun _ _ _ h => h) (Or.inl ⟨by rfl, ?_⟩) (by assumption) ?_
    rotate_left
    focus (intro w hSw; (try dsimp only at hSw); go_simp; try (with_reducible rfl))
    try simp only [List.getElem_toArray, List.getElem_cons_zero, List.getElem_cons_succ, Act.put, List.setIfInBounds_toArray, List.set_cons_zero, List.set_cons_succ]
    refine wpAnyH_ready (rs := [14]) (by kernel_rfl) (by simp) ?_
    refine AllReadyH.cons (o := _) rfl (fun K hK => ?_) AllReadyH.nil
    go_simp
    (go_at_call 63; refine (sCnt n ls x y _ _ (HV.out.below BW.out (Nat.le_refl _)) HG.out HN.out HY.out).mono ?_; rw [HK.out]; rintro e w4 ⟨rfl, hb⟩; replace G := Lib.hid (G.out.below hb G.out.lt); replace BW := Lib.hid (BW.out.trans (hb.mono BW.out.size)); clear hb b0 b1 f0 f1 hb0 r0; obtain ⟨b0, b1, f0, f1, hb0⟩ := box2 G.out)
    refine hK.out _ _ (by ((try dsimp only); (first | go_keep | exact ⟨b0, b1⟩))) (fun hHeld => ?_)
    clear hK K
    try simp only [List.getElem_toArray, List.getElem_cons_zero, List.getElem_cons_succ, Act.put, List.setIfInBounds_toArray, List.set_cons_zero, List.set_cons_succ]
    refine wpAnyH_take (i := 15) (oi := _) (v := ?_) rfl (by kernel_rfl) (by kernel_rfl) (by kernel_rfl) (fun _ _ _ h => h) (Or.inl ⟨by rfl, ?_⟩) (by assumption) ?_
    rotate_left
    focus (intro w hSw; (try dsimp only at hSw); go_simp; try (with_reducible rfl))
    try simp only [List.getElem_toArray, List.getElem_cons_zero, List.getElem_cons_succ, Act.put, List.setIfInBounds_toArray, List.set_cons_zero, List.set_cons_succ]
    refine wpAnyH_take (i := 16) (oi := _) (v := ?_) rfl (by kernel_rfl) (by kernel_rfl) (by kernel_rfl) (fun _ _ _ h => h) (Or.inl ⟨by rfl, ?_⟩) (by assumption) ?_
    rotate_left
    focus (intro w hSw; (try dsimp only at hSw); go_simp; try (with_reducible rfl))
    try simp only [List.getElem_toArray, List.getElem_cons_zero, List.getElem_cons_succ, Act.put, List.setIfInBounds_toArray, List.set_cons_zero, List.set_cons_succ]
    refine wpAnyH_take (i := 17) (oi := _) (v := ?_) rfl (by kernel_rfl) (by kernel_rfl) (by kernel_rfl) (fun _ _ _ h => h) (Or.inl ⟨by rfl, ?_⟩) (by assumption) ?_
    rotate_left
    focus (intro w hSw; (try dsimp only at hSw); go_simp; try (with_reducible rfl))
    try simp only [List.getElem_toArray, List.getElem_cons_zero, List.getElem_cons_succ, Act.put, List.setIfInBounds_toArray, List.set_cons_zero, List.set_cons_succ]
    refine wpAnyH_done (by kernel_rfl) ?_ _
    refine NoPanic.normal ?_
    go_wp2_with fail
    go_ret
    exact ⟨ret_bool (by rw [e2.out, Bool.true_and]; rfl), BW.out⟩
  · have e1 : (C == D) = false := by simpa using hCD
    have e2 : decide (C = D) = false := by simpa using hCD
    have e2 := Lib.hid e2
    clear hCD
    refine wp_region_noPanic ?_
    refine wp_region_held_drew (S := (fun w' => w'.cell? ⟨w.heap.size, 0, none⟩ = some (.int .i64 n) ∧ w'.cell? ⟨w.heap.size, 1, none⟩ = some (.slice va vm vc))) (by kernel_rfl) (by ((try dsimp only); (first | go_keep | exact ⟨b0, b1⟩))) (fun hHeld => ?_)
    refine wpAnyH_take (i := 0) (oi := _) (v := ?_) rfl (by kernel_rfl) (by kernel_rfl) (by kernel_rfl) (fun _ _ _ h => h) (Or.inl ⟨by rfl, ?_⟩) (by assumption) ?_
    rotate_left
    focus (intro w hSw; (try dsimp only at hSw); go_simp; try (with_reducible rfl))
    try simp only [List.getElem_toArray, List.getElem_cons_zero, List.getElem_cons_succ, Act.put, List.setIfInBounds_toArray, List.set_cons_zero, List.set_cons_succ]
    refine wpAnyH_take (i := 1) (oi := _) (v := ?_) rfl (by kernel_rfl) (by kernel_rfl) (by kernel_rfl) (fun _ _ _ h => h) (Or.inl ⟨by rfl, ?_⟩) (by assumption) ?_
    rotate_left
    focus (intro w hSw; (try dsimp only at hSw); go_simp; try (with_reducible rfl))
    try simp only [List.getElem_toArray, List.getElem_cons_zero, List.getElem_cons_succ, Act.put, List.setIfInBounds_toArray, List.set_cons_zero, List.set_cons_succ]
    refine wpAnyH_take (i := 3) (oi := _) (v := ?_) rfl (by kernel_rfl) (by kernel_rfl) (by kernel_rfl) (fun _ _ _ h => h) (Or.inl ⟨by rfl, ?_⟩) (by assumption) ?_
    rotate_left
    focus (intro w hSw; (try dsimp only at hSw); go_simp; try (with_reducible rfl))
    try simp only [List.getElem_toArray, List.getElem_cons_zero, List.getElem_cons_succ, Act.put, List.setIfInBounds_toArray, List.set_cons_zero, List.set_cons_succ]
    refine wpAnyH_take (i := 4) (oi := _) (v := ?_) rfl (by kernel_rfl) (by kernel_rfl) (by kernel_rfl) (fun _ _ _ h => h) (Or.inl ⟨by rfl, ?_⟩) (by assumption) ?_
    rotate_left
    focus (intro w hSw; (try dsimp only at hSw); go_simp; try (with_reducible rfl))
    try simp only [List.getElem_toArray, List.getElem_cons_zero, List.getElem_cons_succ, Act.put, List.setIfInBounds_toArray, List.set_cons_zero, List.set_cons_succ]
    refine wpAnyH_take (i := 6) (oi := _) (v := ?_) rfl (by kernel_rfl) (by kernel_rfl) (by kernel_rfl) (fun _ _ _ h => h) (Or.inl ⟨by rfl, ?_⟩) (by assumption) ?_
    rotate_left
    focus (intro w hSw; (try dsimp only at hSw); go_simp; try (with_reducible rfl))
    try simp only [List.getElem_toArray, List.getElem_cons_zero, List.getElem_cons_succ, Act.put, List.setIfInBounds_toArray, List.set_cons_zero, List.set_cons_succ]
    refine wpAnyH_ready (rs := [2]) (by kernel_rfl) (by simp) ?_
    refine AllReadyH.cons (o := _) rfl (fun K hK => ?_) AllReadyH.nil
    go_simp
    (go_at_call 73; refine (sPCost n ls (x :: q) _ _ _ (HV.out.below BW.out.drew (Nat.le_refl _)) (HU.out.below BW.out.drew (Nat.le_refl _)) HOK.out).mono ?_; rw [HC.out]; rintro e w2 ⟨rfl, hb⟩; replace G := Lib.hid (G.out.drew.below hb G.out.lt); replace BW := Lib.hid (BW.out.drew.trans (hb.mono BW.out.drew.size)); clear hb b0 b1 f0 f1 hb0; obtain ⟨b0, b1, f0, f1, hb0⟩ := box2 G.out)
    refine hK.out _ _ (by ((try dsimp only); (first | go_keep | exact ⟨b0, b1⟩))) (fun hHeld => ?_)
    clear hK K
    try simp only [List.getElem_toArray, List.getElem_cons_zero, List.getElem_cons_succ, Act.put, List.setIfInBounds_toArray, List.set_cons_zero, List.set_cons_succ]
    refine wpAnyH_ready (rs := [5]) (by kernel_rfl) (by simp) ?_
    refine AllReadyH.cons (o := _) rfl (fun K hK => ?_) AllReadyH.nil
    go_simp
    (go_at_call 74; refine (sDist n ls x _ _ (HV.out.below BW.out (Nat.le_refl _)) HG.out HN.out).mono ?_; rintro e w3 ⟨v1, rfl, hO, hb⟩; rw [HD.out] at hO; obtain ⟨g1, c1, hgc, hlo⟩ := own_pos hO.1 (by have := HL.out; omega); subst hgc; obtain ⟨r0, _⟩ := row_at hO.1 rfl (show nd d.length y by rw [HL.out]; exact HY.out); rw [hdy.out] at r0; replace G := Lib.hid (G.out.below hb G.out.lt); replace BW := Lib.hid (BW.out.trans (hb.mono BW.out.size)); clear hO hlo hb b0 b1 f0 f1 hb0; obtain ⟨b0, b1, f0, f1, hb0⟩ := box2 G.out)
    refine hK.out _ _ (by ((try dsimp only); (first | go_keep | exact ⟨b0, b1⟩))) (fun hHeld => ?_)
    clear hK K
    try simp only [List.getElem_toArray, List.getElem_cons_zero, List.getElem_cons_succ, Act.put, List.setIfInBounds_toArray, List.set_cons_zero, List.set_cons_succ]
    refine wpAnyH_take (i := 7) (oi := _) (v := ?_) rfl (by kernel_rfl) (by kernel_rfl) (by kernel_rfl) (fun _ _ _ h => h) (Or.inl ⟨by rfl, ?_⟩) (by assumption) ?_
    rotate_left
    focus (intro w hSw; (try dsimp only at hSw); go_simp; try (with_reducible rfl))
    try simp only [List.getElem_toArray, List.getElem_cons_zero, List.getElem_cons_succ, Act.put, List.setIfInBounds_toArray, List.set_cons_zero, List.set_cons_succ]
    refine wpAnyH_ready (rs := [8]) (by kernel_rfl) (by simp) ?_
    refine AllReadyH.cons (o := _) rfl (fun K hK => ?_) AllReadyH.nil
    go_simp
    refine hK.out _ _ (by ((try dsimp only); (first | go_keep | exact ⟨b0, b1⟩))) (fun hHeld => ?_)
    clear hK K
    try simp only [List.getElem_toArray, List.getElem_cons_zero, List.getElem_cons_succ, Act.put, List.setIfInBounds_toArray, List.set_cons_zero, List.set_cons_succ]
    refine wpAnyH_take (i := 9) (oi := _) (v := ?_) rfl (by kernel_rfl) (by kernel_rfl) (by kernel_rfl) (fun _ _ _ h => h) (Or.inl ⟨by rfl, ?_⟩) (by assumption) ?_
    rotate_left
    focus (intro w hSw; (try dsimp only at hSw); go_simp; try (with_reducible rfl))
    try simp only [List.getElem_toArray, List.getElem_cons_zero, List.getElem_cons_succ, Act.put, List.setIfInBounds_toArray, List.set_cons_zero, List.set_cons_succ]
    refine wpAnyH_take (i := 10) (oi := _) (v := ?_) rfl (by kernel_rfl) (by kernel_rfl) (by kernel_rfl) (fun _ _ _ h => h) (Or.inl ⟨by rfl, ?_⟩) (by assumption) ?_
    rotate_left
    focus (intro w hSw; (try dsimp only at hSw); go_simp; try (with_reducible rfl))
    try simp only [List.getElem_toArray, List.getElem_cons_zero, List.getElem_cons_succ, Act.put, List.setIfInBounds_toArray, List.set_cons_zero, List.set_cons_succ]
    refine wpAnyH_take (i := 11) (oi := _) (v := Go.undef) rfl (by kernel_rfl) (by kernel_rfl) (by kernel_rfl) (fun _ _ _ h => h) (Or.inr ⟨by rfl, rfl⟩) (by assumption) ?_
    try simp only [List.getElem_toArray, List.getElem_cons_zero, List.getElem_cons_succ, Act.put, List.setIfInBounds_toArray, List.set_cons_zero, List.set_cons_succ]
    refine wpAnyH_take (i := 12) (oi := _) (v := Go.undef) rfl (by kernel_rfl) (by kernel_rfl) (by kernel_rfl) (fun _ _ _ h => h) (Or.inr ⟨by rfl, rfl⟩) (by assumption) ?_
    try simp only [List.getElem_toArray, List.getElem_cons_zero, List.getElem_cons_succ, Act.put, List.setIfInBounds_toArray, List.set_cons_zero, List.set_cons_succ]
    refine wpAnyH_take (i := 13) (oi := _) (v := Go.undef) rfl (by kernel_rfl) (by kernel_rfl) (by kernel_rfl) (fun _ _ _ h => h) (Or.inr ⟨by rfl, rfl⟩) (by assumption) ?_
    try simp only [List.getElem_toArray, List.getElem_cons_zero, List.getElem_cons_succ, Act.put, List.setIfInBounds_toArray, List.set_cons_zero, List.set_cons_succ]
    refine wpAnyH_take (i := 14) (oi := _) (v := Go.undef) rfl (by kernel_rfl) (by kernel_rfl) (by kernel_rfl) (fun _ _ _ h => h) (Or.inr ⟨by rfl, rfl⟩) (by assumption) ?_
    try simp only [List.getElem_toArray, List.getElem_cons_zero, List.getElem_cons_succ, Act.put, List.setIfInBounds_toArray, List.set_cons_zero, List.set_cons_succ]
    refine wpAnyH_take (i := 15) (oi := _) (v := Go.undef) rfl (by kernel_rfl) (by kernel_rfl) (by kernel_rfl) (fun _ _ _ h => h) (Or.inr ⟨by rfl, rfl⟩) (by assumption) ?_
    try simp only [List.getElem_toArray, List.getElem_cons_zero, List.getElem_cons_succ, Act.put, List.setIfInBounds_toArray, List.set_cons_zero, List.set_cons_succ]
    refine wpAnyH_take (i := 16) (oi := _) (v := ?_) rfl (by kernel_rfl) (by kernel_rfl) (by kernel_rfl) (fun _ _ _ h => h) (Or.inl ⟨by rfl, ?_⟩) (by assumption) ?_
    rotate_left
    focus (intro w hSw; (try dsimp only at hSw); go_simp; try (with_reducible rfl))
    try simp only [List.getElem_toArray, List.getElem_cons_zero, List.getElem_cons_succ, Act.put, List.setIfInBounds_toArray, List.set_cons_zero, List.set_cons_succ]
    refine wpAnyH_take (i := 17) (oi := _) (v := ?_) rfl (by kernel_rfl) (by kernel_rfl) (by kernel_rfl) (fun _ _ _ h => h) (Or.inl ⟨by rfl, ?_⟩) (by assumption) ?_
    rotate_left
    focus (intro w hSw; (try dsimp only at hSw); go_simp; try (with_reducible rfl))
    try simp only [List.getElem_toArray, List.getElem_cons_zero, List.getElem_cons_succ, Act.put, List.setIfInBounds_toArray, List.set_cons_zero, List.set_cons_succ]
    refine wpAnyH_done (by kernel_rfl) ?_ _
    refine NoPanic.normal ?_
    go_wp2_with fail
    go_ret
    exact ⟨ret_bool (by rw [e2.out]; simp), BW.out⟩
end Go.Proofs.Ytoebefpmfgkpoaa
