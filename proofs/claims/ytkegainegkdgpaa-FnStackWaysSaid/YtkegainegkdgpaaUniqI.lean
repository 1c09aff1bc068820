/- Whether a stack's way is unique: StackUnique of the program (slices.ContainsFunc with its closure): unqV. -/
import Derived.Test.YtkegainegkdgpaaUniqS
namespace Go.Proofs.Ytkegainegkdgpaa
set_option linter.unusedSimpArgs false
set_option linter.unusedVariables false
open Go.RowKit

theorem below_set {Bi : Nat} {a w : World} (h : Below Bi a w) (k : Nat) (u : Value) : Below Bi a (w.setCell ⟨Bi, k, none⟩ u) := h.setCell (p := ⟨Bi, k, none⟩) (Nat.le_refl _) u
/-- The closure at the k-th label. -/
def UqOne (w : World) (Bi : Nat) (k : Int) (r : Bool) (e : Ending) (w' : World) : Prop := e = .returned (.bool r) ∧ Below Bi w w' ∧ Box w' Bi #[.int .i64 k] 3 ∧ w.heap.size ≤ w'.heap.size
set_option maxRecDepth 100000 in
set_option maxHeartbeats 2000000 in
theorem uqOne {n : Int} {ls : List LinkD} (x y lk lx : Int) (k Bi Gb Nb og M oc : Nat) (gv : Value) (w0 w : World) (hv : TriplesAt w0 gv ls) (hB : Below w0.heap.size w0 w) (h0I : w0.heap.size ≤ Bi) (h : GOk n ls) (hx : nd n.toNat x) (hy : nd n.toNat y)
    (hI : Box w Bi #[.int .i64 ((k:Int) - 1)] 3) (hG : Box w Gb #[.int .i64 n, gv] 25) (hN : Box w Nb #[.slice (some ⟨og, 0, none⟩) M oc] 29) (hGI : Gb < Bi) (hNI : Nb < Bi) (hoI : og < Bi)
    (hr0 : w.cell? ⟨og, k, none⟩ = some (.int .i64 x)) (hr1 : w.cell? ⟨og, k + 1, none⟩ = some (.int .i64 y)) (hkM : k + 1 < M) (hM : M ≤ 9) (hk12 : lk = 1 ∨ lk = 2) :
    Calls Try.prog 55 #[.agg #[.int .i64 lk, .int .i64 lx], .pointer (some ⟨Bi, 0, none⟩), .pointer (some ⟨Gb, 0, none⟩), .pointer (some ⟨Nb, 0, none⟩)] w (UqOne w Bi k (decide (lk = 1) && !decide (cntG n ls x y = 1))) := by
  have HV := Lib.hid hv; have HB := Lib.hid hB; have HGO := Lib.hid h; have HX := Lib.hid hx; have HY := Lib.hid hy
  obtain ⟨va, vm, vc, rfl⟩ := hv.form
  obtain ⟨i0, i1, hIl⟩ := box1 hI
  have hkw : IntKind.i64.wrap ((k:Int) - 1 + 1) = (k:Int) := by rw [IntWalk.i64_in _ (by omega)]; omega
  have hk0 : (0:Int) ≤ (k:Int) := by omega
  have hk1 : (0:Int) ≤ (k:Int) + 1 := by omega
  have hk2 : (k:Int) < (M:Int) := by omega
  have hk3 : (k:Int) + 1 < (M:Int) := by omega
  have hk4 : ((k:Int) + 1).toNat = k + 1 := by omega
  have hIw : Bi < w.heap.size + 1 := by omega
  have hIn : ¬ Bi = w.heap.size := by omega
  have hkb : (k:Int) - 1 + 1 = (k:Int) := by omega
  have H1 : Hid (Box ((w.setCell ⟨Bi, 0, none⟩ (.int .i64 (k:Int))).alloc (.cells #[.int .i64 lk, .int .i64 lx] 40)) Bi #[.int .i64 (k:Int)] 3) := Lib.hid (by have := (hI.set (o := 0) (.int .i64 (k:Int))).alloc (.cells #[.int .i64 lk, .int .i64 lx] 40); simpa using this)
  have H2 : Hid (Box ((w.setCell ⟨Bi, 0, none⟩ (.int .i64 (k:Int))).alloc (.cells #[.int .i64 lk, .int .i64 lx] 40)) Gb #[.int .i64 n, .slice va vm vc] 25) := Lib.hid ((hG.setOther (a := ⟨Bi, 0, none⟩) (by simp; omega) _).alloc _)
  have H3 : Hid (Box ((w.setCell ⟨Bi, 0, none⟩ (.int .i64 (k:Int))).alloc (.cells #[.int .i64 lk, .int .i64 lx] 40)) Nb #[.slice (some ⟨og, 0, none⟩) M oc] 29) := Lib.hid ((hN.setOther (a := ⟨Bi, 0, none⟩) (by simp; omega) _).alloc _)
  have H4 : Hid (Box ((w.setCell ⟨Bi, 0, none⟩ (.int .i64 (k:Int))).alloc (.cells #[.int .i64 lk, .int .i64 lx] 40)) w.heap.size #[.int .i64 lk, .int .i64 lx] 40) := Lib.hid (box_at _ _ _ (by simp))
  have HBW : Hid (Below Bi w ((w.setCell ⟨Bi, 0, none⟩ (.int .i64 (k:Int))).alloc (.cells #[.int .i64 lk, .int .i64 lx] 40))) := Lib.hid ((below_set (Below.refl _ _) 0 _).alloc (by simp; omega) _)
  have Hr0 := Lib.hid (cell_below HBW.out hr0 hoI); have Hr1 := Lib.hid (cell_below HBW.out hr1 hoI)
  have hws : Hid (w.heap.size ≤ ((w.setCell ⟨Bi, 0, none⟩ (.int .i64 (k:Int))).alloc (.cells #[.int .i64 lk, .int .i64 lx] 40)).heap.size) := Lib.hid (by simp)
  clear hv hB h hx hy hI hG hN hr0 hr1
  go_enter Try.func55, Try.ntmps55
  go_wp2_with fail
  obtain ⟨W, hW⟩ : ∃ W, (w.setCell ⟨Bi, 0, none⟩ (.int .i64 (k:Int))).alloc (.cells #[.int .i64 lk, .int .i64 lx] 40) = W := ⟨_, rfl⟩
  rw [hW] at H1 H2 H3 H4 HBW Hr0 Hr1 hws
  rw [hW]
  clear hW i0 i1
  have hIW : Bi ≤ W.heap.size := by have := hws.out; omega
  obtain ⟨I, φ, h0, hφ, hmk⟩ := famOf (W).heap.size (W)
  haveI : Nonempty I := h0.elim fun i _ => ⟨i⟩
  have H0 := Lib.hid h0; have HF := Lib.hid hφ; have HMK := Lib.hid hmk; have HBs : Hid ((W).heap.size ≤ (W).heap.size) := Lib.hid (Nat.le_refl _)
  clear h0 hφ hmk
  have hf1 : ∀ i, (φ i).cell? ⟨Bi, 0, none⟩ = some (.int .i64 (k:Int)) := fun i => (box1 (H1.out.below (HF.out i) H1.out.lt)).1
  have hf3 : ∀ i, (φ i).cell? ⟨Nb, 0, none⟩ = some (.slice (some ⟨og, 0, none⟩) M oc) := fun i => (box1 (H3.out.below (HF.out i) H3.out.lt)).1
  obtain ⟨G_0, G_1, G_2, G_3, G_4⟩ := box2F fun i => H2.out.below (HF.out i) H2.out.lt
  obtain ⟨L_0, L_1, L_2, L_3, L_4⟩ := box2F fun i => H4.out.below (HF.out i) H4.out.lt
  have e2 : ∀ j, (φ j).cell? ⟨og, k, none⟩ = some (.int .i64 x) := fun j => cell_below (HF.out j) Hr0.out (cell_lt Hr0.out)
  have e3 : ∀ j, (φ j).cell? ⟨og, k + 1, none⟩ = some (.int .i64 y) := fun j => cell_below (HF.out j) Hr1.out (cell_lt Hr1.out)
  have w3 : IntKind.i64.wrap ((k:Int) + 1) = (k:Int) + 1 := IntWalk.i64_in _ (by omega)
  have hend : ∀ w4 : World, Below W.heap.size W w4 → Below Bi w w4 ∧ Box w4 Bi #[.int .i64 (k:Int)] 3 ∧ w.heap.size ≤ w4.heap.size := fun w4 hb => ⟨HBW.out.trans (hb.mono hIW), H1.out.below hb H1.out.lt, Nat.le_trans hws.out hb.size⟩
  have HE := Lib.hid hend
  clear hend
  rcases hk12 with rfl | rfl
  · have t1 : ((1:Int) == 1) = true := by simp
    obtain ⟨c, hc⟩ : ∃ c, cntG n ls x y = c := ⟨_, rfl⟩
    have HC : Hid (∀ i, Calls Try.prog 56 #[.agg #[.int .i64 n, .slice va vm vc], .int .i64 x, .int .i64 y] (φ i) fun e w' => e = .returned (.int .i64 c) ∧ Below (φ i).heap.size (φ i) w') := Lib.hid fun i => by rw [← hc]; exact iCnt n ls x y _ _ (HV.out.below (HB.out.trans ((HBW.out.trans ((HF.out i).mono hIW)).mono h0I)) (Nat.le_refl _)) HGO.out HX.out HY.out
    rw [hc]
    have HCC := Lib.hid hc
    clear hc
    by_cases hc1 : c = 1
    · have t3 : (c != 1) = false := by simpa using hc1
      have HC1 := Lib.hid hc1
      clear hc1
      refine wp_region_fam φ H0.out (by kernel_rfl) (by kernel_rfl) ?_
      repeat (go_big_quiet_step (first | (go_at_call 56; exact quiet_fam HF.out HBs.out HMK.out (HC.out _))))
      refine wpQuiet_nil ?_
      intro _ hw'
      obtain ⟨nq, hw''⟩ := hw'
      subst hw''
      have hb := HF.out nq
      obtain ⟨w4, hw2⟩ : ∃ x, φ nq = x := ⟨_, rfl⟩
      rw [hw2] at hb ⊢
      clear hw2
      go_wp2_with fail
      go_ret
      exact ⟨ret_bool (by rw [HCC.out, HC1.out]; rfl), HE.out _ hb⟩
    · have t3 : (c != 1) = true := by simpa using hc1
      have HC1 := Lib.hid hc1
      clear hc1
      refine wp_region_fam φ H0.out (by kernel_rfl) (by kernel_rfl) ?_
      repeat (go_big_quiet_step (first | (go_at_call 56; exact quiet_fam HF.out HBs.out HMK.out (HC.out _))))
      refine wpQuiet_nil ?_
      intro _ hw'
      obtain ⟨nq, hw''⟩ := hw'
      subst hw''
      have hb := HF.out nq
      obtain ⟨w4, hw2⟩ : ∃ x, φ nq = x := ⟨_, rfl⟩
      rw [hw2] at hb ⊢
      clear hw2
      go_wp2_with fail
      go_ret
      exact ⟨ret_bool (by rw [HCC.out]; simp [HC1.out]), HE.out _ hb⟩
  · have t1 : ((2:Int) == 1) = false := by simp
    refine wp_region_fam φ H0.out (by kernel_rfl) (by kernel_rfl) ?_
    repeat (go_big_quiet_step (fail))
    refine wpQuiet_nil ?_
    intro _ hw'
    obtain ⟨nq, hw''⟩ := hw'
    subst hw''
    have hb := HF.out nq
    obtain ⟨w4, hw2⟩ : ∃ x, φ nq = x := ⟨_, rfl⟩
    rw [hw2] at hb ⊢
    clear hw2
    go_wp2_with fail
    go_ret
    exact ⟨ret_bool (by simp), HE.out _ hb⟩
set_option maxRecDepth 100000 in
set_option maxHeartbeats 2000000 in
theorem uqIndex {n : Int} {ls : List LinkD} {a : Int} {s : List LabelD} {q : List Int} (hF : StkFacts n ls a s q) (Bi Gb Nb og M oc : Nat) (gv u : Value) (w0 w : World) (hv : TriplesAt w0 gv ls) (hB : Below w0.heap.size w0 w) (h0I : w0.heap.size ≤ Bi) (hu : PairsAt w0 u s)
    (hI : Box w Bi #[.int .i64 (-1)] 3) (hG : Box w Gb #[.int .i64 n, gv] 25) (hN : Box w Nb #[.slice (some ⟨og, 0, none⟩) M oc] 29) (hGI : Gb < Bi) (hNI : Nb < Bi) (hoI : og < Bi) (hM : M = s.length + 1)
    (hO : w.ownsRow 0 3 1 (.slice (some ⟨og, 0, none⟩) M oc) M ((a :: q).map (Value.int .i64))) :
    Calls Try.prog 83 #[u, .func (.func 55) #[] #[.pointer (some ⟨Bi, 0, none⟩), .pointer (some ⟨Gb, 0, none⟩), .pointer (some ⟨Nb, 0, none⟩)]] w
      (fun e w' => ∃ r : Int, e = .returned (.int .i64 r) ∧ decide (0 ≤ r) = !uniqS n ls a s ∧ Below Bi w w') := by
  have HV := Lib.hid hv; have HB := Lib.hid hB; have HFA := Lib.hid hF; have HO := Lib.hid hO; have HG := Lib.hid hG; have HN := Lib.hid hN
  obtain ⟨ua, ucap, ub, uoff, rfl, hucap, humax, hua, huc⟩ := hu
  obtain ⟨m, hm⟩ : ∃ m, m = s.length := ⟨_, rfl⟩
  rw [← hm] at hucap hua hM ⊢
  have HM := Lib.hid hm; have HUC := Lib.hid huc; have HUA := Lib.hid hua; have HMM := Lib.hid hM
  have hm8 : m ≤ 8 := by rw [hm]; exact hF.len
  have hM9 : M ≤ 9 := by omega
  have HI1 := Lib.hid hI
  unfold maxLen at humax
  clear hm huc hua hv hF hO hG hN hB hM hI
  go_enter Try.func83, Try.ntmps83
  go_wp2_with fail
  go_loopw [8] (fun i wr => ∃ k : Nat, k ≤ m ∧ i = .int .i64 k ∧ Hid (uniqS n ls a (s.take k) = true) ∧ Below Bi w wr ∧ Hid (Box wr Bi #[.int .i64 ((k:Int) - 1)] 3) ∧ w.heap.size ≤ wr.heap.size) (fun i _ => m - (intOf i).toNat)
  case atStart => exact ⟨0, Nat.zero_le _, rfl, Lib.hid rfl, Below.refl _ _, HI1, Nat.le_refl _⟩
  case round =>
    obtain ⟨k, hk, rfl, HU, hBr, HIr, hsz⟩ := hrel
    have HBr := Lib.hid hBr
    clear hBr
    by_cases hkm : k < m
    · obtain ⟨⟨lk, lx⟩, hx⟩ := at_lt HM.out hkm
      have hua := HUA.out (by omega)
      subst hua
      obtain ⟨d0, d1⟩ := HUC.out k lk lx hx
      have hbd := cell_lt d0
      have e0 := cell_below (HB.out.trans (HBr.out.mono h0I)) d0 hbd
      have e1 := cell_below (HB.out.trans (HBr.out.mono h0I)) d1 hbd
      obtain ⟨x, y, hA⟩ := stk_at HFA.out.ok HFA.out.nd HFA.out.run hx
      obtain ⟨r0, _⟩ := own_at HO.out hA.at_
      obtain ⟨r1, _⟩ := own_at HO.out (show (a :: q)[k + 1]? = some y by simpa using hA.next)
      have Hr0 := Lib.hid (cell_below HBr.out r0 hoI); have Hr1 := Lib.hid (cell_below HBr.out r1 hoI)
      have hk12 : lk = 1 ∨ lk = 2 := by
        rcases hop_cases HFA.out.ok hA.hop with h2 | ⟨_, _, h2, _⟩
        · exact .inl h2.1
        · exact .inr h2
      have HK := Lib.hid hk12
      have HAT := Lib.hid hA
      have hkI : (k:Int) < (m:Int) := by omega
      have hk0 : (0:Int) ≤ (k:Int) := by omega
      obtain ⟨r, hr⟩ : ∃ r, (decide (lk = 1) && !decide (cntG n ls x y = 1)) = r := ⟨_, rfl⟩
      have HR := Lib.hid hr
      have hUn : uniqS n ls a (s.take (k + 1)) = !r := by
        rw [hA.uniq, HU.out, ← hr]
        simp
      have HUN := Lib.hid hUn
      clear hx d0 d1 hA r0 r1 hk12 hr hUn
      go_wp2_with fail
      refine (uqOne x y lk lx k Bi Gb Nb og M oc gv w0 _ HV.out (HB.out.trans (HBr.out.mono h0I)) h0I HFA.out.ok HAT.out.ndx HAT.out.ndy HIr.out (HG.out.below HBr.out hGI) (HN.out.below HBr.out hNI) hGI hNI hoI Hr0.out Hr1.out (by have := HMM.out; omega) hM9 HK.out).mono ?_
      rw [HR.out]
      rintro e w3 ⟨rfl, hb1, hb2, hb3⟩
      have HB3 := Lib.hid (HBr.out.trans hb1)
      have HI3 := Lib.hid hb2
      clear hb1 hb2
      cases r with
      | true =>
        go_wp2_with fail
        go_ret
        exact ⟨_, rfl, by rw [uniq_no (k + 1) HUN.out]; simp, HB3.out⟩
      | false =>
        go_wp2_with fail
        go_roundw
        case rel => exact ⟨k + 1, by omega, by go_num, HUN, HB3.out, Lib.hid (by have := HI3.out; simpa using this), by omega⟩
        case measure => simp [intOf]; omega
    · obtain rfl : k = m := by omega
      go_wp2_with fail
      go_ret
      have h1 := HU.out
      rw [List.take_of_length_le (by have := HM.out; omega)] at h1
      exact ⟨-1, rfl, by rw [h1]; rfl, HBr.out⟩
theorem uqContains {n : Int} {ls : List LinkD} {a : Int} {s : List LabelD} {q : List Int} (hF : StkFacts n ls a s q) (Bi Gb Nb og M oc : Nat) (gv u : Value) (w0 w : World) (hv : TriplesAt w0 gv ls) (hB : Below w0.heap.size w0 w) (h0I : w0.heap.size ≤ Bi) (hu : PairsAt w0 u s)
    (hI : Box w Bi #[.int .i64 (-1)] 3) (hG : Box w Gb #[.int .i64 n, gv] 25) (hN : Box w Nb #[.slice (some ⟨og, 0, none⟩) M oc] 29) (hGI : Gb < Bi) (hNI : Nb < Bi) (hoI : og < Bi) (hM : M = s.length + 1)
    (hO : w.ownsRow 0 3 1 (.slice (some ⟨og, 0, none⟩) M oc) M ((a :: q).map (Value.int .i64))) :
    Calls Try.prog 54 #[u, .func (.func 55) #[] #[.pointer (some ⟨Bi, 0, none⟩), .pointer (some ⟨Gb, 0, none⟩), .pointer (some ⟨Nb, 0, none⟩)]] w
      (fun e w' => e = .returned (.bool (!uniqS n ls a s)) ∧ Below Bi w w') := by
  have HC := Lib.hid (uqIndex hF Bi Gb Nb og M oc gv u w0 w hv hB h0I hu hI hG hN hGI hNI hoI hM hO)
  obtain ⟨ua, um, ucap, rfl⟩ := hu.form
  obtain ⟨U, hU⟩ : ∃ U, (!uniqS n ls a s) = U := ⟨_, rfl⟩
  rw [hU] at HC ⊢
  clear hF hv hB h0I hu hI hG hN hGI hNI hoI hM hO hU
  go_enter Try.func54, Try.ntmps54
  go_wp2_with fail
  refine HC.out.mono ?_
  rintro e w' ⟨r, rfl, hr, hb⟩
  have HB := Lib.hid hb
  clear hb
  go_wp2_with fail
  go_ret
  exact ⟨rfl, HB.out⟩
set_option maxRecDepth 100000 in
set_option maxHeartbeats 2000000 in
theorem iStackUnique (n : Int) (ls : List LinkD) (a : Int) (s : List LabelD) (v u : Value) (w : World) (hv : TriplesAt w v ls) (hu : PairsAt w u s) :
    Calls Try.prog 29 #[.agg #[.int .i64 n, v], .int .i64 a, u] w fun e w' => e = .returned (.bool (unqV n ls a s)) ∧ Below w.heap.size w w' := by
  have HV := Lib.hid hv; have HU := Lib.hid hu
  obtain ⟨va, vm, vcap, rfl⟩ := hv.form
  obtain ⟨ua, um, ucap, rfl⟩ := hu.form
  clear hv hu
  go_enter Try.func29, Try.ntmps29
  go_wp2_with fail
  refine (iStk n ls a s _ _ _ (HV.out.below (by with_reducible (repeat (first | (refine below_drewN ?_ _) | (refine Below.drew ?_) | (refine below_alloc ?_ (by first | omega | (simp; done) | (simp; omega)) _) | (refine Below.setCell ?_ (by first | omega | (simp; done) | (simp; omega)) _) | exact Below.refl _ _ | assumption | (refine below_call ?_ (by first | omega | (simp; done) | (simp; omega)) (by assumption))))) (Nat.le_refl _)) (HU.out.below (by with_reducible (repeat (first | (refine below_drewN ?_ _) | (refine Below.drew ?_) | (refine below_alloc ?_ (by first | omega | (simp; done) | (simp; omega)) _) | (refine Below.setCell ?_ (by first | omega | (simp; done) | (simp; omega)) _) | exact Below.refl _ _ | assumption | (refine below_call ?_ (by first | omega | (simp; done) | (simp; omega)) (by assumption))))) (Nat.le_refl _))).mono ?_
  rintro e w1 ⟨hno, hyes, hb⟩
  have G := Lib.hid (Box.call (b := w.heap.size) (c := #[.int .i64 n, .slice va vm vcap]) (t := 25) hb (by with_reducible (repeat (first | (refine box_at _ _ _ ?_; first | rfl | (simp; done)) | apply Box.alloc | apply Box.drewN | apply Box.drew))))
  obtain ⟨G_0, G_1, G_2, G_3, G_4⟩ := box2 G.out
  have BW := Lib.hid (below_call (B := w.heap.size) (a := w) (by with_reducible (repeat (first | (refine below_drewN ?_ _) | (refine Below.drew ?_) | (refine below_alloc ?_ (by first | omega | (simp; done) | (simp; omega)) _) | (refine Below.setCell ?_ (by first | omega | (simp; done) | (simp; omega)) _) | exact Below.refl _ _ | assumption | (refine below_call ?_ (by first | omega | (simp; done) | (simp; omega)) (by assumption))))) (Nat.le_refl _) hb)
  clear hb G_0 G_1 G_2 G_3 G_4
  have hGl := G.out.lt
  rcases hs : stkOf n ls a s with _ | q
  · obtain ⟨A, m', c, rfl⟩ := hno hs
    clear hno hyes
    have HS := Lib.hid hs
    have hB := BW.out
    clear hs
    go_wp2_with fail
    go_ret
    exact ⟨ret_bool (unqV_none HS.out).symm, (by with_reducible (repeat (first | (refine below_drewN ?_ _) | (refine Below.drew ?_) | (refine below_alloc ?_ (by first | omega | (simp; done) | (simp; omega)) _) | (refine Below.setCell ?_ (by first | omega | (simp; done) | (simp; omega)) _) | exact Below.refl _ _ | assumption | (refine below_call ?_ (by first | omega | (simp; done) | (simp; omega)) (by assumption)))))⟩
  obtain ⟨v, rfl, hO⟩ := hyes q hs
  clear hno hyes
  have HS := Lib.hid hs
  have HUV := Lib.hid (unqV_some hs)
  have HFA := Lib.hid (stkOf_some hs)
  have hql : q.length + 1 = s.length + 1 := by have := (stkOf_some hs).qlen; omega
  obtain ⟨og, oc, rfl, hlo⟩ := own_pos hO.1 (by omega)
  have hog := (hO.lt og rfl).2.2
  have HO := Lib.hid (hO.mono (Nat.zero_le _) (Nat.le_refl _)).1
  clear hs hO
  have hGl' := Nat.lt_succ_of_lt hGl
  have W2 : Below w.heap.size w ((w1.alloc (.cells #[.slice (some ⟨og, 0, none⟩) (s.length + 1) oc] 29)).alloc (.cells #[.int .i64 (-1)] 3)) := by have hB := BW.out; exact (by with_reducible (repeat (first | (refine below_drewN ?_ _) | (refine Below.drew ?_) | (refine below_alloc ?_ (by first | omega | (simp; done) | (simp; omega)) _) | (refine Below.setCell ?_ (by first | omega | (simp; done) | (simp; omega)) _) | exact Below.refl _ _ | assumption | (refine below_call ?_ (by first | omega | (simp; done) | (simp; omega)) (by assumption)))))
  have BI : Box ((w1.alloc (.cells #[.slice (some ⟨og, 0, none⟩) (s.length + 1) oc] 29)).alloc (.cells #[.int .i64 (-1)] 3)) (w1.heap.size + 1) #[.int .i64 (-1)] 3 := box_at _ _ _ (by simp)
  have BN : Box ((w1.alloc (.cells #[.slice (some ⟨og, 0, none⟩) (s.length + 1) oc] 29)).alloc (.cells #[.int .i64 (-1)] 3)) w1.heap.size #[.slice (some ⟨og, 0, none⟩) (s.length + 1) oc] 29 := (box_new w1 _ _).alloc _
  have BG := (G.out.alloc (.cells #[.slice (some ⟨og, 0, none⟩) (s.length + 1) oc] 29)).alloc (.cells #[.int .i64 (-1)] 3)
  have OO := (HO.out.alloc (.cells #[.slice (some ⟨og, 0, none⟩) (s.length + 1) oc] 29)).alloc (.cells #[.int .i64 (-1)] 3)
  rw [hql] at OO
  have hws := BW.out.size
  have HC := Lib.hid (uqContains HFA.out (w1.heap.size + 1) w.heap.size w1.heap.size og (s.length + 1) oc _ _ w _ HV.out W2 (by omega) HU.out BI BG BN (by omega) (by omega) (by omega) rfl OO)
  have HW2 := Lib.hid W2
  clear W2 BI BN BG OO
  obtain ⟨U, hU⟩ : ∃ U, uniqS n ls a s = U := ⟨_, rfl⟩
  rw [hU] at HC HUV
  clear hU
  go_wp2_with fail
  refine HC.out.mono ?_
  rintro e w3 ⟨rfl, hb⟩
  have HB3 := Lib.hid (HW2.out.trans (hb.mono (by omega)))
  clear hb
  go_wp2_with fail
  go_ret
  exact ⟨ret_bool HUV.out.symm, HB3.out⟩
end Go.Proofs.Ytkegainegkdgpaa
