/- Costs of paths: pathCost, PathCost of the program; l5Cost, PathCost of the reference. -/
import Derived.Test.YtoebefpmfgkpoaaPathV
namespace Go.Proofs.Ytoebefpmfgkpoaa
set_option linter.unusedSimpArgs false
set_option linter.unusedVariables false
open Go.RowKit

theorem IntsAt.form {w : World} {v : Value} {es : List Int} (h : IntsAt w v es) : ∃ a n cap, v = .slice a n cap := let ⟨a, cap, _, _, hv, _⟩ := h; ⟨a, _, cap, hv⟩
/-- The cost of the first k links of a path. -/
def pcostK (ls : List LinkD) (path : List Int) : Nat → Int
  | 0 => 0
  | k + 1 => pcostK ls path k + cstL ls (path.getD k 0) (path.getD (k + 1) 0)
def costD (n : Int) (ls : List LinkD) (path : List Int) : Int := if pathOk n ls path = true then pcostK ls path (path.length - 1) else -1
theorem pcost_cons (ls : List LinkD) (a x : Int) (p : List Int) : ∀ k, pcostK ls (a :: x :: p) (k + 1) = cstL ls a x + pcostK ls (x :: p) k
  | 0 => by simp [pcostK]
  | k + 1 => by
    show pcostK ls (a :: x :: p) (k + 1) + _ = cstL ls a x + (pcostK ls (x :: p) k + _)
    rw [pcost_cons ls a x p k]
    simp; omega
theorem pcost_wc (ls : List LinkD) : ∀ (p : List Int) (a : Int), pcostK ls (a :: p) p.length = wc (cstL ls) a p
  | [], _ => rfl
  | x :: p, a => by
    show pcostK ls (a :: x :: p) (p.length + 1) = cstL ls a x + wc (cstL ls) x p
    rw [pcost_cons, pcost_wc ls p x]
theorem cst_le {n : Int} {ls : List LinkD} (h : GOk n ls) (a b : Int) : 0 ≤ cstL ls a b ∧ cstL ls a b ≤ 20 := by
  rcases lk_cases ls a b with ⟨_, h2, _⟩ | ⟨i, l, h1, h2, h3, h4⟩
  · omega
  · have := h.link i l h2; omega
theorem pcost_le {n : Int} {ls : List LinkD} (h : GOk n ls) (path : List Int) : ∀ k : Nat, 0 ≤ pcostK ls path k ∧ pcostK ls path k ≤ 20 * k
  | 0 => by simp [pcostK]
  | k + 1 => by
    have h1 := pcost_le h path k
    have h2 := cst_le h (path.getD k 0) (path.getD (k + 1) 0)
    show 0 ≤ _ + _ ∧ _ + _ ≤ _
    push_cast; omega
theorem costD_ok {n : Int} {ls : List LinkD} {path : List Int} (h : pathOk n ls path = true) : costD n ls path = pcostK ls path (path.length - 1) := if_pos h
theorem costD_no {n : Int} {ls : List LinkD} {path : List Int} (h : pathOk n ls path = false) : costD n ls path = -1 := if_neg (by simp [h])
/-- What a valid path gives at each of its links. -/
theorem pathOk_link {n : Int} {ls : List LinkD} {path : List Int} (h : pathOk n ls path = true) {k : Nat} {x y : Int} (hx : path[k]? = some x) (hy : path[k + 1]? = some y) :
    ∃ (i : Nat) (l : LinkD), lkOf ls x y = i ∧ ls[i]? = some l ∧ cstL ls x y = l.2.2 := by
  rw [pathOk_eq] at h
  simp only [Bool.and_eq_true] at h
  have hc := all_iff.1 h.2 k (by have := (List.getElem?_eq_some_iff.1 hy).1; omega)
  unfold chainB at hc
  rw [getD_of hx, getD_of hy] at hc
  have h0 : 0 ≤ lkOf ls x y := by simpa using hc
  rcases lk_cases ls x y with ⟨h1, _, _⟩ | ⟨i, l, h1, h2, _, h4⟩
  · omega
  · exact ⟨i, l, h1, h2, h4⟩
theorem pathOk_gok {n : Int} {ls : List LinkD} {path : List Int} (h : pathOk n ls path = true) : GOk n ls ∧ 1 ≤ path.length ∧ path.length ≤ 9 := by
  rw [pathOk_eq] at h
  simp only [Bool.and_eq_true] at h
  have := inB_iff.1 h.1.1.2
  exact ⟨gOk_iff.1 h.1.1.1, by omega, by omega⟩
set_option maxRecDepth 100000 in
set_option maxHeartbeats 4000000 in
theorem iPCost (n : Int) (ls : List LinkD) (path : List Int) (v u : Value) (w : World) (hv : TriplesAt w v ls) (hu : IntsAt w u path) (hp : pathOk n ls path = true) :
    Calls Try.prog 46 #[.agg #[.int .i64 n, v], u] w fun e w' => e = .returned (.int .i64 (pcostK ls path (path.length - 1))) ∧ Below w.heap.size w w' := by
  have HV := Lib.hid hv
  obtain ⟨va, vcap, vb, voff, rfl, hvcap, hvmax, hva, hvc⟩ := hv
  obtain ⟨vm, hvm⟩ : ∃ m, m = ls.length := ⟨_, rfl⟩
  rw [← hvm] at hvcap hva HV ⊢
  have HVM := Lib.hid hvm; have HVC := Lib.hid hvc; have HVA := Lib.hid hva
  clear hvm hvc hva
  obtain ⟨a, cap, b, off, rfl, hcap, hmax, ha, hc⟩ := hu
  unfold maxLen at hmax hvmax
  obtain ⟨hg, hl1, hl9⟩ := pathOk_gok hp
  obtain ⟨m, hm⟩ : ∃ m, m = path.length := ⟨_, rfl⟩
  rw [← hm] at hcap ha hl1 hl9 ⊢
  have HM := Lib.hid hm; clear hm
  have HC := Lib.hid hc; clear hc
  have HA := Lib.hid ha; clear ha
  have HG := Lib.hid hg; have HP := Lib.hid hp
  clear hg hp
  go_enter Try.func46, Try.ntmps46
  go_wp2_with fail
  have A := Lib.hid (box_new w #[.int .i64 n, .slice va vm vcap] 25)
  go_loopw [5, 6] (fun s i wr => ∃ k : Nat, 1 ≤ k ∧ k ≤ m ∧ i = .int .i64 k ∧ s = .int .i64 (pcostK ls path (k - 1)) ∧ Below w.heap.size w wr ∧ Box wr w.heap.size #[.int .i64 n, .slice va vm vcap] 25) (fun _ i _ => m - (intOf i).toNat)
  case atStart => exact ⟨1, Nat.le_refl _, hl1, rfl, rfl, (by with_reducible (repeat (first | (refine below_drewN ?_ _) | (refine Below.drew ?_) | (refine below_alloc ?_ (by first | omega | (simp; done) | (simp; omega)) _) | (refine Below.setCell ?_ (by first | omega | (simp; done) | (simp; omega)) _) | exact Below.refl _ _ | assumption | (refine below_call ?_ (by first | omega | (simp; done) | (simp; omega)) (by assumption))))), A.out⟩
  case round =>
    obtain ⟨k, hk1, hk, rfl, rfl, hB, hG⟩ := hrel
    have HB := Lib.hid hB
    clear A
    by_cases hkm : k < m
    · obtain ⟨x, hx⟩ := at_lt HM.out (show k - 1 < m by omega)
      obtain ⟨y, hy⟩ := at_lt HM.out hkm
      have ha := HA.out (by omega)
      subst ha
      have d0 := HC.out _ x hx
      have d1 := HC.out _ y hy
      have hbd := cell_lt d0
      have hkI : (k:Int) < (m:Int) := by omega
      have w1 : IntKind.i64.wrap ((k:Int) - 1) = (k:Int) - 1 := IntWalk.i64_in _ (by omega)
      have w2 : (0:Int) ≤ (k:Int) - 1 := by omega
      have w4 : ((k:Int) - 1).toNat = k - 1 := by omega
      have w5 : (k:Int) - 1 < (m:Int) := by omega
      have hy' : path[k - 1 + 1]? = some y := by rw [show k - 1 + 1 = k by omega]; exact hy
      obtain ⟨i, ⟨lx, ly, lz⟩, hi, hli, hci⟩ := pathOk_link HP.out hx hy'
      simp only at hci
      have hil : i < vm := by have := (List.getElem?_eq_some_iff.1 hli).1; have := HVM.out; omega
      have hva := HVA.out (by omega)
      subst hva
      obtain ⟨_, _, d2⟩ := HVC.out i lx ly lz hli
      have hvb := cell_lt d2
      have hiI : (i:Int) < (vm:Int) := by omega
      have hi0 : (0:Int) ≤ (i:Int) := by omega
      have HS : Hid (pcostK ls path (k - 1 + 1) = pcostK ls path (k - 1) + lz) := Lib.hid (by show _ + _ = _; rw [getD_of hx, getD_of hy', hci])
      obtain ⟨s, hs⟩ : ∃ s, pcostK ls path (k - 1) = s := ⟨_, rfl⟩
      have hs1 := pcost_le HG.out path (k - 1)
      have hz := cst_le HG.out x y
      rw [hci] at hz
      rw [hs] at HS hs1 ⊢
      have w6 : IntKind.i64.wrap (s + lz) = s + lz := IntWalk.i64_in _ (by omega)
      go_wp2_with fail
      obtain ⟨I, φ, h0, hφ, hmk⟩ := famOf (wr).heap.size (wr)
      haveI : Nonempty I := h0.elim fun i _ => ⟨i⟩
      have H0 := Lib.hid h0; have HF := Lib.hid hφ; have HMK := Lib.hid hmk; have HBs : Hid ((wr).heap.size ≤ (wr).heap.size) := Lib.hid (Nat.le_refl _)
      clear h0 hφ hmk
      obtain ⟨G_0, G_1, G_2, G_3, G_4⟩ := box2F fun i => hG.below (HF.out i) hG.lt
      have HW : Hid (∀ i, Below w.heap.size w (φ i)) := Lib.hid fun i => hB.trans ((HF.out i).mono hB.size)
      have e0 : ∀ i, (φ i).cell? ⟨b, off + (k - 1), none⟩ = some (.int .i64 x) := fun i => cell_below (HW.out i) d0 hbd
      have e1 : ∀ i, (φ i).cell? ⟨b, off + k, none⟩ = some (.int .i64 y) := fun i => cell_below (HW.out i) d1 hbd
      have e2 : ∀ j, (φ j).cell? ⟨vb, voff + i * 3 + 2, none⟩ = some (.int .i64 lz) := fun j => cell_below (HW.out j) d2 hvb
      have HI := Lib.hid hi
      have HN : Hid (∀ j, Calls Try.prog 40 #[.agg #[.int .i64 n, .slice (some ⟨vb, voff, none⟩) vm vcap], .int .i64 x, .int .i64 y] (φ j) fun e w' => e = .returned (.int .i64 (i:Int)) ∧ Below (φ j).heap.size (φ j) w') := Lib.hid fun j => by
        rw [← HI.out]; exact iLinkOf n ls x y _ _ (HV.out.below (HW.out j) (Nat.le_refl _)) (by have := HG.out.len; omega)
      clear hx hy hy' hi hli hci d0 d1 d2 hB hs
      refine wp_region_fam φ H0.out (by kernel_rfl) (by kernel_rfl) ?_
      repeat (go_big_quiet_step (first | (go_at_call 40; exact quiet_fam HF.out HBs.out HMK.out (HN.out _))))
      refine wpQuiet_nil ?_
      intro _ hw'
      obtain ⟨nq, hw''⟩ := hw'
      subst hw''
      have hb := HF.out nq
      obtain ⟨w2, hw2⟩ : ∃ x, φ nq = x := ⟨_, rfl⟩
      rw [hw2] at hb ⊢
      clear hw2
      go_wp2_with fail
      go_roundw
      case rel =>
        refine ⟨k + 1, by omega, by omega, by go_num, ?_, HB.out.trans (hb.mono HB.out.size), hG.below hb hG.lt⟩
        rw [show k + 1 - 1 = k - 1 + 1 by omega, HS.out]
      case measure => simp [intOf]; omega
    · obtain rfl : m = k := by omega
      go_wp2_with fail
      go_ret
      exact ⟨rfl, HB.out⟩
set_option maxRecDepth 100000 in
set_option maxHeartbeats 4000000 in
theorem sPCost (n : Int) (ls : List LinkD) (path : List Int) (v u : Value) (w : World) (hv : TriplesAt w v ls) (hu : IntsAt w u path) (hp : pathOk n ls path = true) :
    Calls Try.prog 73 #[.agg #[.int .i64 n, v], u] w fun e w' => e = .returned (.int .i64 (pcostK ls path (path.length - 1))) ∧ Below w.heap.size w w' := by
  have HV := Lib.hid hv
  obtain ⟨va, vcap, vb, voff, rfl, hvcap, hvmax, hva, hvc⟩ := hv
  obtain ⟨vm, hvm⟩ : ∃ m, m = ls.length := ⟨_, rfl⟩
  rw [← hvm] at hvcap hva HV ⊢
  have HVM := Lib.hid hvm; have HVC := Lib.hid hvc; have HVA := Lib.hid hva
  clear hvm hvc hva
  obtain ⟨a, cap, b, off, rfl, hcap, hmax, ha, hc⟩ := hu
  unfold maxLen at hmax hvmax
  obtain ⟨hg, hl1, hl9⟩ := pathOk_gok hp
  obtain ⟨m, hm⟩ : ∃ m, m = path.length := ⟨_, rfl⟩
  rw [← hm] at hcap ha hl1 hl9 ⊢
  have HM := Lib.hid hm; clear hm
  have HC := Lib.hid hc; clear hc
  have HA := Lib.hid ha; clear ha
  have HG := Lib.hid hg; have HP := Lib.hid hp
  clear hg hp
  go_enter Try.func73, Try.ntmps73
  go_wp2_with fail
  have A := Lib.hid (box_new w #[.int .i64 n, .slice va vm vcap] 25)
  go_loopw [5, 6] (fun s i wr => ∃ k : Nat, 1 ≤ k ∧ k ≤ m ∧ i = .int .i64 k ∧ s = .int .i64 (pcostK ls path (k - 1)) ∧ Below w.heap.size w wr ∧ Box wr w.heap.size #[.int .i64 n, .slice va vm vcap] 25) (fun _ i _ => m - (intOf i).toNat)
  case atStart => exact ⟨1, Nat.le_refl _, hl1, rfl, rfl, (by with_reducible (repeat (first | (refine below_drewN ?_ _) | (refine Below.drew ?_) | (refine below_alloc ?_ (by first | omega | (simp; done) | (simp; omega)) _) | (refine Below.setCell ?_ (by first | omega | (simp; done) | (simp; omega)) _) | exact Below.refl _ _ | assumption | (refine below_call ?_ (by first | omega | (simp; done) | (simp; omega)) (by assumption))))), A.out⟩
  case round =>
    obtain ⟨k, hk1, hk, rfl, rfl, hB, hG⟩ := hrel
    have HB := Lib.hid hB
    clear A
    by_cases hkm : k < m
    · obtain ⟨x, hx⟩ := at_lt HM.out (show k - 1 < m by omega)
      obtain ⟨y, hy⟩ := at_lt HM.out hkm
      have ha := HA.out (by omega)
      subst ha
      have d0 := HC.out _ x hx
      have d1 := HC.out _ y hy
      have hbd := cell_lt d0
      have hkI : (k:Int) < (m:Int) := by omega
      have w1 : IntKind.i64.wrap ((k:Int) - 1) = (k:Int) - 1 := IntWalk.i64_in _ (by omega)
      have w2 : (0:Int) ≤ (k:Int) - 1 := by omega
      have w4 : ((k:Int) - 1).toNat = k - 1 := by omega
      have w5 : (k:Int) - 1 < (m:Int) := by omega
      have hy' : path[k - 1 + 1]? = some y := by rw [show k - 1 + 1 = k by omega]; exact hy
      obtain ⟨i, ⟨lx, ly, lz⟩, hi, hli, hci⟩ := pathOk_link HP.out hx hy'
      simp only at hci
      have hil : i < vm := by have := (List.getElem?_eq_some_iff.1 hli).1; have := HVM.out; omega
      have hva := HVA.out (by omega)
      subst hva
      obtain ⟨_, _, d2⟩ := HVC.out i lx ly lz hli
      have hvb := cell_lt d2
      have hiI : (i:Int) < (vm:Int) := by omega
      have hi0 : (0:Int) ≤ (i:Int) := by omega
      have HS : Hid (pcostK ls path (k - 1 + 1) = pcostK ls path (k - 1) + lz) := Lib.hid (by show _ + _ = _; rw [getD_of hx, getD_of hy', hci])
      obtain ⟨s, hs⟩ : ∃ s, pcostK ls path (k - 1) = s := ⟨_, rfl⟩
      have hs1 := pcost_le HG.out path (k - 1)
      have hz := cst_le HG.out x y
      rw [hci] at hz
      rw [hs] at HS hs1 ⊢
      have w6 : IntKind.i64.wrap (s + lz) = s + lz := IntWalk.i64_in _ (by omega)
      go_wp2_with fail
      obtain ⟨I, φ, h0, hφ, hmk⟩ := famOf (wr).heap.size (wr)
      haveI : Nonempty I := h0.elim fun i _ => ⟨i⟩
      have H0 := Lib.hid h0; have HF := Lib.hid hφ; have HMK := Lib.hid hmk; have HBs : Hid ((wr).heap.size ≤ (wr).heap.size) := Lib.hid (Nat.le_refl _)
      clear h0 hφ hmk
      obtain ⟨G_0, G_1, G_2, G_3, G_4⟩ := box2F fun i => hG.below (HF.out i) hG.lt
      have HW : Hid (∀ i, Below w.heap.size w (φ i)) := Lib.hid fun i => hB.trans ((HF.out i).mono hB.size)
      have e0 : ∀ i, (φ i).cell? ⟨b, off + (k - 1), none⟩ = some (.int .i64 x) := fun i => cell_below (HW.out i) d0 hbd
      have e1 : ∀ i, (φ i).cell? ⟨b, off + k, none⟩ = some (.int .i64 y) := fun i => cell_below (HW.out i) d1 hbd
      have e2 : ∀ j, (φ j).cell? ⟨vb, voff + i * 3 + 2, none⟩ = some (.int .i64 lz) := fun j => cell_below (HW.out j) d2 hvb
      have HI := Lib.hid hi
      have HN : Hid (∀ j, Calls Try.prog 43 #[.agg #[.int .i64 n, .slice (some ⟨vb, voff, none⟩) vm vcap], .int .i64 x, .int .i64 y] (φ j) fun e w' => e = .returned (.int .i64 (i:Int)) ∧ Below (φ j).heap.size (φ j) w') := Lib.hid fun j => by
        rw [← HI.out]; exact sLinkOf n ls x y _ _ (HV.out.below (HW.out j) (Nat.le_refl _)) 
      clear hx hy hy' hi hli hci d0 d1 d2 hB hs
      refine wp_region_fam φ H0.out (by kernel_rfl) (by kernel_rfl) ?_
      repeat (go_big_quiet_step (first | (go_at_call 43; exact quiet_fam HF.out HBs.out HMK.out (HN.out _))))
      refine wpQuiet_nil ?_
      intro _ hw'
      obtain ⟨nq, hw''⟩ := hw'
      subst hw''
      have hb := HF.out nq
      obtain ⟨w2, hw2⟩ : ∃ x, φ nq = x := ⟨_, rfl⟩
      rw [hw2] at hb ⊢
      clear hw2
      go_wp2_with fail
      go_roundw
      case rel =>
        refine ⟨k + 1, by omega, by omega, by go_num, ?_, HB.out.trans (hb.mono HB.out.size), hG.below hb hG.lt⟩
        rw [show k + 1 - 1 = k - 1 + 1 by omega, HS.out]
      case measure => simp [intOf]; omega
    · obtain rfl : m = k := by omega
      go_wp2_with fail
      go_ret
      exact ⟨rfl, HB.out⟩
theorem iPathCost (n : Int) (ls : List LinkD) (path : List Int) (v u : Value) (w : World) (hv : TriplesAt w v ls) (hu : IntsAt w u path) :
    Calls Try.prog 16 #[.agg #[.int .i64 n, v], u] w fun e w' => e = .returned (.int .i64 (costD n ls path)) ∧ Below w.heap.size w w' := by
  have HV := Lib.hid hv; have HU := Lib.hid hu
  obtain ⟨va, vm, vcap, rfl⟩ := hv.form
  obtain ⟨a, um, cap, rfl⟩ := hu.form
  clear hv hu
  go_enter Try.func16, Try.ntmps16
  go_wp2_with fail
  refine (iPathValid n ls path _ _ _ (HV.out.below (by with_reducible (repeat (first | (refine below_drewN ?_ _) | (refine Below.drew ?_) | (refine below_alloc ?_ (by first | omega | (simp; done) | (simp; omega)) _) | (refine Below.setCell ?_ (by first | omega | (simp; done) | (simp; omega)) _) | exact Below.refl _ _ | assumption | (refine below_call ?_ (by first | omega | (simp; done) | (simp; omega)) (by assumption))))) (Nat.le_refl _)) (HU.out.below (by with_reducible (repeat (first | (refine below_drewN ?_ _) | (refine Below.drew ?_) | (refine below_alloc ?_ (by first | omega | (simp; done) | (simp; omega)) _) | (refine Below.setCell ?_ (by first | omega | (simp; done) | (simp; omega)) _) | exact Below.refl _ _ | assumption | (refine below_call ?_ (by first | omega | (simp; done) | (simp; omega)) (by assumption))))) (Nat.le_refl _))).mono ?_
  rintro e w1 ⟨rfl, hb⟩
  have G := Lib.hid (Box.call (b := w.heap.size) (c := #[.int .i64 n, .slice va vm vcap]) (t := 25) hb (by with_reducible (repeat (first | (refine box_at _ _ _ ?_; first | rfl | (simp; done)) | apply Box.alloc | apply Box.drewN | apply Box.drew))))
  obtain ⟨G_0, G_1, G_2, G_3, G_4⟩ := box2 G.out
  have BW := Lib.hid (below_call (B := w.heap.size) (a := w) (by with_reducible (repeat (first | (refine below_drewN ?_ _) | (refine Below.drew ?_) | (refine below_alloc ?_ (by first | omega | (simp; done) | (simp; omega)) _) | (refine Below.setCell ?_ (by first | omega | (simp; done) | (simp; omega)) _) | exact Below.refl _ _ | assumption | (refine below_call ?_ (by first | omega | (simp; done) | (simp; omega)) (by assumption))))) (Nat.le_refl _) hb)
  clear hb
  obtain ⟨q, hq⟩ : ∃ q, pathOk n ls path = q := ⟨_, rfl⟩
  have HQ := Lib.hid hq
  rw [hq]
  clear hq
  cases q with
  | false =>
    go_wp2_with fail
    go_ret
    exact ⟨ret_int (costD_no HQ.out).symm, BW.out⟩
  | true =>
    go_wp2_with fail
    refine (iPCost n ls path _ _ _ (HV.out.below BW.out (Nat.le_refl _)) (HU.out.below BW.out (Nat.le_refl _)) HQ.out).mono ?_
    rintro e w2 ⟨rfl, hb⟩
    have B2 := Lib.hid (BW.out.trans (hb.mono BW.out.size))
    clear hb
    go_wp2_with fail
    go_ret
    exact ⟨ret_int (costD_ok HQ.out).symm, B2.out⟩
end Go.Proofs.Ytoebefpmfgkpoaa
