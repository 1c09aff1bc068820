/- The number of shortest paths: pathCount of the program, l2Count of the reference: cntG. -/
import Derived.Test.YtoebefpmfgkpoaaSpI
namespace Go.Proofs.Ytoebefpmfgkpoaa
set_option linter.unusedSimpArgs false
set_option linter.unusedVariables false
open Go.RowKit

/-- A sum over the first nodes of a list. -/
def sumK (cs : Int → Int) (l : List Int) (k : Nat) : Int := ((l.take k).map cs).sum
theorem sumK_snoc {cs : Int → Int} {l : List Int} {k : Nat} {m : Int} (h : l[k]? = some m) : sumK cs l (k + 1) = sumK cs l k + cs m := by
  obtain ⟨h1, h2⟩ := List.getElem?_eq_some_iff.1 h
  unfold sumK
  rw [List.take_succ_eq_append_getElem h1, h2]
  simp
theorem sumK_all (cs : Int → Int) (l : List Int) : sumK cs l l.length = (l.map cs).sum := by unfold sumK; rw [List.take_length]
theorem sumK_bnd {cs : Int → Int} : ∀ {l : List Int} (_ : ∀ m ∈ l, 0 ≤ cs m ∧ cs m ≤ 2097152) (k : Nat), 0 ≤ sumK cs l k ∧ sumK cs l k ≤ 2097152 * l.length
  | [], _, k => by simp [sumK]
  | x :: l, h, 0 => by simp [sumK]; omega
  | x :: l, h, k + 1 => by
    have h1 := h x (by simp)
    have h2 := sumK_bnd (l := l) (fun m hm => h m (by simp [hm])) k
    have e : sumK cs (x :: l) (k + 1) = cs x + sumK cs l k := by simp [sumK]
    rw [e]
    simp only [List.length_cons]
    omega
/-- What a call of FN gives for a node. -/
def CntsTo (F : Nat) (n : Int) (ls : List LinkD) (b m c : Int) : Prop := ∀ (v : Value) (w : World), TriplesAt w v ls → Calls Try.prog F #[.agg #[.int .i64 n, v], .int .i64 m, .int .i64 b] w fun e w' => e = .returned (.int .i64 c) ∧ Below w.heap.size w w'
theorem iCntEq (n : Int) (ls : List LinkD) (b : Int) : CntsTo 50 n ls b b 1 := by
  intro v w hv
  obtain ⟨va, vm, vc, rfl⟩ := hv.form
  have e : (b == b) = true := by simp
  clear hv
  go_enter Try.func50, Try.ntmps50
  go_wp2_with fail
  go_ret
  exact ⟨rfl, (by with_reducible (repeat (first | (refine below_drewN ?_ _) | (refine Below.drew ?_) | (refine below_alloc ?_ (by first | omega | (simp; done) | (simp; omega)) _) | (refine Below.setCell ?_ (by first | omega | (simp; done) | (simp; omega)) _) | exact Below.refl _ _ | assumption | (refine below_call ?_ (by first | omega | (simp; done) | (simp; omega)) (by assumption)))))⟩
theorem sCntEq (n : Int) (ls : List LinkD) (b : Int) : CntsTo 63 n ls b b 1 := by
  intro v w hv
  obtain ⟨va, vm, vc, rfl⟩ := hv.form
  have e : (b == b) = true := by simp
  clear hv
  go_enter Try.func63, Try.ntmps63
  go_wp2_with fail
  go_ret
  exact ⟨rfl, (by with_reducible (repeat (first | (refine below_drewN ?_ _) | (refine Below.drew ?_) | (refine below_alloc ?_ (by first | omega | (simp; done) | (simp; omega)) _) | (refine Below.setCell ?_ (by first | omega | (simp; done) | (simp; omega)) _) | exact Below.refl _ _ | assumption | (refine below_call ?_ (by first | omega | (simp; done) | (simp; omega)) (by assumption)))))⟩
set_option maxRecDepth 100000 in
set_option maxHeartbeats 2000000 in
theorem iCntStep {n : Int} {ls : List LinkD} {x b : Int} {cs : Int → Int} (h : GOk n ls) (hx : nd n.toNat x) (hb : nd n.toNat b) (hne : x ≠ b) (hcs : ∀ m ∈ hopsG n ls x b, 0 ≤ cs m ∧ cs m ≤ 2097152) (IH : ∀ m ∈ hopsG n ls x b, CntsTo 50 n ls b m (cs m)) :
    CntsTo 50 n ls b x (((hopsG n ls x b).map cs).sum) := by
  intro v w hv
  have HV := Lib.hid hv
  obtain ⟨va, vm, vc, rfl⟩ := hv.form
  have HG := Lib.hid h; have HX := Lib.hid hx; have HB := Lib.hid hb
  have hl8 : (hopsG n ls x b).length ≤ 8 := by have := hopsL_len n.toNat (cstL ls) (distG n ls b) x; have := h.n8; unfold hopsG; omega
  obtain ⟨L, hL⟩ : ∃ L, hopsG n ls x b = L := ⟨_, rfl⟩
  rw [hL] at hl8 hcs IH ⊢
  have HL := Lib.hid hL
  have HIH := Lib.hid IH; have HCS := Lib.hid hcs
  have t0 : (x == b) = false := by simpa using hne
  clear hv h hx hb hne hcs IH hL
  go_enter Try.func50, Try.ntmps50
  go_wp2_with fail
  refine (iHops n ls x b _ _ (HV.out.below (by with_reducible (repeat (first | (refine below_drewN ?_ _) | (refine Below.drew ?_) | (refine below_alloc ?_ (by first | omega | (simp; done) | (simp; omega)) _) | (refine Below.setCell ?_ (by first | omega | (simp; done) | (simp; omega)) _) | exact Below.refl _ _ | assumption | (refine below_call ?_ (by first | omega | (simp; done) | (simp; omega)) (by assumption))))) (Nat.le_refl _)) HG.out HX.out HB.out).mono ?_
  rw [HL.out]
  rintro e w1 ⟨u, rfl, hO, hb⟩
  have G := Lib.hid (Box.call (b := w.heap.size) (c := #[.int .i64 n, .slice va vm vc]) (t := 25) hb (by with_reducible (repeat (first | (refine box_at _ _ _ ?_; first | rfl | (simp; done)) | apply Box.alloc | apply Box.drewN | apply Box.drew))))
  obtain ⟨G_0, G_1, G_2, G_3, G_4⟩ := box2 G.out
  have BW := Lib.hid (below_call (B := w.heap.size) (a := w) (by with_reducible (repeat (first | (refine below_drewN ?_ _) | (refine Below.drew ?_) | (refine below_alloc ?_ (by first | omega | (simp; done) | (simp; omega)) _) | (refine Below.setCell ?_ (by first | omega | (simp; done) | (simp; omega)) _) | exact Below.refl _ _ | assumption | (refine below_call ?_ (by first | omega | (simp; done) | (simp; omega)) (by assumption))))) (Nat.le_refl _) hb)
  have HO := Lib.hid hO
  obtain ⟨oa, oc, rfl⟩ := own_slice hO.1
  clear hb hO G_0 G_1 G_2 G_3 G_4
  obtain ⟨M, hM⟩ : ∃ M, M = L.length := ⟨_, rfl⟩
  rw [← hM] at HO hl8 ⊢
  have HM := Lib.hid hM
  clear hM
  obtain ⟨s0, hs0⟩ : ∃ s, sumK cs L 0 = s := ⟨_, rfl⟩
  have hs00 : s0 = 0 := by rw [← hs0]; simp [sumK]
  subst hs00
  have HS0 := Lib.hid hs0
  clear hs0
  go_wp2_with fail
  go_loopw [7, 18] (fun sv i wr => ∃ k : Nat, k ≤ M ∧ i = .int .i64 k ∧ sv = .int .i64 (sumK cs L k) ∧ Below w.heap.size w wr ∧ Below w1.heap.size w1 wr) (fun _ i _ => M - (intOf i).toNat)
  case atStart => exact ⟨0, Nat.zero_le _, rfl, by rw [HS0.out], BW.out, Below.refl _ _⟩
  case round =>
    obtain ⟨k, hk, rfl, rfl, hB, hB1⟩ := hrel
    have hbd := sumK_bnd HCS.out k
    rw [← HM.out] at hbd
    obtain ⟨S, hS⟩ : ∃ S, sumK cs L k = S := ⟨_, rfl⟩
    rw [hS] at hbd ⊢
    have HS := Lib.hid hS
    have HB1 := Lib.hid hB; have HB2 := Lib.hid hB1
    have hG := G.out.below hB1 G.out.lt
    obtain ⟨b0, b1, f0, f1, hb0⟩ := box2 hG
    have hS0 : 0 ≤ S := hbd.1
    have hS1 : S ≤ 16777216 := by have := hbd.2; omega
    clear hS hB hB1 hG hbd
    by_cases hkM : k < M
    · obtain ⟨m, hm⟩ := at_lt HM.out hkM
      obtain ⟨og, oc', hform, _⟩ := own_pos HO.out.1 (by omega)
      injection hform with q1 q2 q3
      subst q1
      subst q3
      clear q2
      obtain ⟨r0, _⟩ := own_at (HO.out.below HB2.out (Nat.le_refl _)).1 hm
      have HSN := Lib.hid (sumK_snoc (cs := cs) hm)
      rw [HS.out] at HSN
      have hmm := List.mem_of_getElem? hm
      have hcb := HCS.out m hmm
      have HC := Lib.hid (HIH.out m hmm)
      obtain ⟨c, hc⟩ : ∃ c, cs m = c := ⟨_, rfl⟩
      rw [hc] at HSN hcb HC
      obtain ⟨hc0, hc1⟩ := hcb
      have hkI : (k:Int) < (M:Int) := by omega
      have hk0 : (0:Int) ≤ (k:Int) := by omega
      clear hm hmm hc
      go_wp2_with fail
      refine (HC.out _ _ (HV.out.below HB1.out (Nat.le_refl _))).mono ?_
      rintro e w3 ⟨rfl, hb⟩
      have HB3 := Lib.hid (HB1.out.trans (hb.mono HB1.out.size)); have HB4 := Lib.hid (HB2.out.trans (hb.mono HB2.out.size))
      clear hb r0 b0 b1 f0 f1 hb0
      go_wp2_with fail
      go_roundw
      case rel => exact ⟨k + 1, by omega, by go_num, by rw [HSN.out], HB3.out, HB4.out⟩
      case measure => simp [intOf]; omega
    · obtain rfl : k = M := by omega
      go_wp2_with fail
      go_ret
      exact ⟨ret_int (by rw [← HS.out, HM.out, sumK_all]), HB1.out⟩
set_option maxRecDepth 100000 in
set_option maxHeartbeats 2000000 in
theorem sCntStep {n : Int} {ls : List LinkD} {x b : Int} {cs : Int → Int} (h : GOk n ls) (hx : nd n.toNat x) (hb : nd n.toNat b) (hne : x ≠ b) (hcs : ∀ m ∈ hopsG n ls x b, 0 ≤ cs m ∧ cs m ≤ 2097152) (IH : ∀ m ∈ hopsG n ls x b, CntsTo 63 n ls b m (cs m)) :
    CntsTo 63 n ls b x (((hopsG n ls x b).map cs).sum) := by
  intro v w hv
  have HV := Lib.hid hv
  obtain ⟨va, vm, vc, rfl⟩ := hv.form
  have HG := Lib.hid h; have HX := Lib.hid hx; have HB := Lib.hid hb
  have hl8 : (hopsG n ls x b).length ≤ 8 := by have := hopsL_len n.toNat (cstL ls) (distG n ls b) x; have := h.n8; unfold hopsG; omega
  obtain ⟨L, hL⟩ : ∃ L, hopsG n ls x b = L := ⟨_, rfl⟩
  rw [hL] at hl8 hcs IH ⊢
  have HL := Lib.hid hL
  have HIH := Lib.hid IH; have HCS := Lib.hid hcs
  have t0 : (x == b) = false := by simpa using hne
  clear hv h hx hb hne hcs IH hL
  go_enter Try.func63, Try.ntmps63
  go_wp2_with fail
  refine (sHops n ls x b _ _ (HV.out.below (by with_reducible (repeat (first | (refine below_drewN ?_ _) | (refine Below.drew ?_) | (refine below_alloc ?_ (by first | omega | (simp; done) | (simp; omega)) _) | (refine Below.setCell ?_ (by first | omega | (simp; done) | (simp; omega)) _) | exact Below.refl _ _ | assumption | (refine below_call ?_ (by first | omega | (simp; done) | (simp; omega)) (by assumption))))) (Nat.le_refl _)) HG.out HX.out HB.out).mono ?_
  rw [HL.out]
  rintro e w1 ⟨u, rfl, hO, hb⟩
  have G := Lib.hid (Box.call (b := w.heap.size) (c := #[.int .i64 n, .slice va vm vc]) (t := 25) hb (by with_reducible (repeat (first | (refine box_at _ _ _ ?_; first | rfl | (simp; done)) | apply Box.alloc | apply Box.drewN | apply Box.drew))))
  obtain ⟨G_0, G_1, G_2, G_3, G_4⟩ := box2 G.out
  have BW := Lib.hid (below_call (B := w.heap.size) (a := w) (by with_reducible (repeat (first | (refine below_drewN ?_ _) | (refine Below.drew ?_) | (refine below_alloc ?_ (by first | omega | (simp; done) | (simp; omega)) _) | (refine Below.setCell ?_ (by first | omega | (simp; done) | (simp; omega)) _) | exact Below.refl _ _ | assumption | (refine below_call ?_ (by first | omega | (simp; done) | (simp; omega)) (by assumption))))) (Nat.le_refl _) hb)
  have HO := Lib.hid hO
  obtain ⟨oa, oc, rfl⟩ := own_slice hO.1
  clear hb hO G_0 G_1 G_2 G_3 G_4
  obtain ⟨M, hM⟩ : ∃ M, M = L.length := ⟨_, rfl⟩
  rw [← hM] at HO hl8 ⊢
  have HM := Lib.hid hM
  clear hM
  obtain ⟨s0, hs0⟩ : ∃ s, sumK cs L 0 = s := ⟨_, rfl⟩
  have hs00 : s0 = 0 := by rw [← hs0]; simp [sumK]
  subst hs00
  have HS0 := Lib.hid hs0
  clear hs0
  go_wp2_with fail
  go_loopw [7, 9] (fun sv i wr => ∃ k : Nat, k ≤ M ∧ i = .int .i64 k ∧ sv = .int .i64 (sumK cs L k) ∧ Below w.heap.size w wr ∧ Below w1.heap.size w1 wr) (fun _ i _ => M - (intOf i).toNat)
  case atStart => exact ⟨0, Nat.zero_le _, rfl, by rw [HS0.out], BW.out, Below.refl _ _⟩
  case round =>
    obtain ⟨k, hk, rfl, rfl, hB, hB1⟩ := hrel
    have hbd := sumK_bnd HCS.out k
    rw [← HM.out] at hbd
    obtain ⟨S, hS⟩ : ∃ S, sumK cs L k = S := ⟨_, rfl⟩
    rw [hS] at hbd ⊢
    have HS := Lib.hid hS
    have HB1 := Lib.hid hB; have HB2 := Lib.hid hB1
    have hG := G.out.below hB1 G.out.lt
    have hS0 : 0 ≤ S := hbd.1
    have hS1 : S ≤ 16777216 := by have := hbd.2; omega
    clear hS hB hB1 hbd
    by_cases hkM : k < M
    · obtain ⟨m, hm⟩ := at_lt HM.out hkM
      obtain ⟨og, oc', hform, _⟩ := own_pos HO.out.1 (by omega)
      injection hform with q1 q2 q3
      subst q1
      subst q3
      clear q2
      obtain ⟨r0, _⟩ := own_at (HO.out.below HB2.out (Nat.le_refl _)).1 hm
      have HSN := Lib.hid (sumK_snoc (cs := cs) hm)
      rw [HS.out] at HSN
      have hmm := List.mem_of_getElem? hm
      have hcb := HCS.out m hmm
      have HC := Lib.hid (HIH.out m hmm)
      obtain ⟨c, hc⟩ : ∃ c, cs m = c := ⟨_, rfl⟩
      rw [hc] at HSN hcb HC
      obtain ⟨hc0, hc1⟩ := hcb
      have hkI : (k:Int) < (M:Int) := by omega
      have hk0 : (0:Int) ≤ (k:Int) := by omega
      have ws : IntKind.i64.wrap (S + c) = S + c := IntWalk.i64_in _ (by omega)
      clear hm hmm hc
      obtain ⟨b0, b1, f0, f1, hb0⟩ := box2 hG
      go_wp2_with fail
      have B3 := Lib.hid HB1.out.drew; have B4 := Lib.hid HB2.out.drew
      clear HB1 HB2 hG
      refine wp_region_noPanic ?_
      refine wp_region_held_drew (S := (fun w' => w'.cell? ⟨w.heap.size, 0, none⟩ = some (.int .i64 n) ∧ w'.cell? ⟨w.heap.size, 1, none⟩ = some (.slice va vm vc) ∧ w'.cell? ⟨og, k, none⟩ = some (.int .i64 m))) (by kernel_rfl) (by ((try dsimp only); (first | go_keep | exact ⟨b0, b1, r0⟩))) (fun hHeld => ?_)
      refine wpAnyH_take (i := 0) (oi := _) (v := ?_) rfl (by kernel_rfl) (by kernel_rfl) (by kernel_rfl) (fun _ _ _ h => h) (Or.inl ⟨by rfl, ?_⟩) (by assumption) ?_
      rotate_left
      focus (intro w hSw; (try dsimp only at hSw); go_simp; try (with_reducible rfl))
      try simp only [List.getElem_toArray, List.getElem_cons_zero, List.getElem_cons_succ, Act.put, List.setIfInBounds_toArray, List.set_cons_zero, List.set_cons_succ]
      refine wpAnyH_take (i := 1) (oi := _) (v := ?_) rfl (by kernel_rfl) (by kernel_rfl) (by kernel_rfl) (fun _ _ _ h => h) (Or.inl ⟨by rfl, ?_⟩) (by assumption) ?_
      rotate_left
      focus (intro w hSw; (try dsimp only at hSw); go_simp; try (with_reducible rfl))
      try simp only [List.getElem_toArray, List.getElem_cons_zero, List.getElem_cons_succ, Act.put, List.setIfInBounds_toArray, List.set_cons_zero, List.set_cons_succ]
      refine wpAnyH_take (i := 2) (oi := _) (v := ?_) rfl (by kernel_rfl) (by kernel_rfl) (by kernel_rfl) (fun _ _ _ h => h) (Or.inl ⟨by rfl, ?_⟩) (by assumption) ?_
      rotate_left
      focus (intro w hSw; (try dsimp only at hSw); go_simp; try (with_reducible rfl))
      try simp only [List.getElem_toArray, List.getElem_cons_zero, List.getElem_cons_succ, Act.put, List.setIfInBounds_toArray, List.set_cons_zero, List.set_cons_succ]
      refine wpAnyH_take (i := 3) (oi := _) (v := ?_) rfl (by kernel_rfl) (by kernel_rfl) (by kernel_rfl) (fun _ _ _ h => h) (Or.inl ⟨by rfl, ?_⟩) (by assumption) ?_
      rotate_left
      focus (intro w hSw; (try dsimp only at hSw); go_simp; try (with_reducible rfl))
      try simp only [List.getElem_toArray, List.getElem_cons_zero, List.getElem_cons_succ, Act.put, List.setIfInBounds_toArray, List.set_cons_zero, List.set_cons_succ]
      refine wpAnyH_take (i := 4) (oi := _) (v := ?_) rfl (by kernel_rfl) (by kernel_rfl) (by kernel_rfl) (fun _ _ _ h => h) (Or.inl ⟨by rfl, ?_⟩) (by assumption) ?_
      rotate_left
      focus (intro w hSw; (try dsimp only at hSw); go_simp; try (with_reducible rfl))
      try simp only [List.getElem_toArray, List.getElem_cons_zero, List.getElem_cons_succ, Act.put, List.setIfInBounds_toArray, List.set_cons_zero, List.set_cons_succ]
      refine wpAnyH_take (i := 5) (oi := _) (v := ?_) rfl (by kernel_rfl) (by kernel_rfl) (by kernel_rfl) (fun _ _ _ h => h) (Or.inl ⟨by rfl, ?_⟩) (by assumption) ?_
      rotate_left
      focus (intro w hSw; (try dsimp only at hSw); go_simp; try (with_reducible rfl))
      try simp only [List.getElem_toArray, List.getElem_cons_zero, List.getElem_cons_succ, Act.put, List.setIfInBounds_toArray, List.set_cons_zero, List.set_cons_succ]
      refine wpAnyH_take (i := 6) (oi := _) (v := ?_) rfl (by kernel_rfl) (by kernel_rfl) (by kernel_rfl) (fun _ _ _ h => h) (Or.inl ⟨by rfl, ?_⟩) (by assumption) ?_
      rotate_left
      focus (intro w hSw; (try dsimp only at hSw); go_simp; try (with_reducible rfl))
      try simp only [List.getElem_toArray, List.getElem_cons_zero, List.getElem_cons_succ, Act.put, List.setIfInBounds_toArray, List.set_cons_zero, List.set_cons_succ]
      refine wpAnyH_ready (rs := [7]) (by kernel_rfl) (by simp) ?_
      refine AllReadyH.cons (o := _) rfl (fun K hK => ?_) AllReadyH.nil
      go_simp
      (go_at_call 63; refine (HC.out _ _ (HV.out.below B3.out (Nat.le_refl _))).mono ?_; rintro e w3 ⟨rfl, hb⟩; replace b0 := cell_below hb b0 (cell_lt b0); replace b1 := cell_below hb b1 (cell_lt b1); replace r0 := cell_below hb r0 (cell_lt r0); replace B3 := Lib.hid (B3.out.trans (hb.mono B3.out.size)); replace B4 := Lib.hid (B4.out.trans (hb.mono B4.out.size)); clear hb f0 f1 hb0)
      refine hK.out _ _ (by ((try dsimp only); (first | go_keep | exact ⟨b0, b1, r0⟩))) (fun hHeld => ?_)
      clear hK K
      try simp only [List.getElem_toArray, List.getElem_cons_zero, List.getElem_cons_succ, Act.put, List.setIfInBounds_toArray, List.set_cons_zero, List.set_cons_succ]
      refine wpAnyH_take (i := 8) (oi := _) (v := ?_) rfl (by kernel_rfl) (by kernel_rfl) (by kernel_rfl) (fun _ _ _ h => h) (Or.inl ⟨by rfl, ?_⟩) (by assumption) ?_
      rotate_left
      focus (intro w hSw; (try dsimp only at hSw); go_simp; try (with_reducible rfl))
      try simp only [List.getElem_toArray, List.getElem_cons_zero, List.getElem_cons_succ, Act.put, List.setIfInBounds_toArray, List.set_cons_zero, List.set_cons_succ]
      refine wpAnyH_take (i := 9) (oi := _) (v := ?_) rfl (by kernel_rfl) (by kernel_rfl) (by kernel_rfl) (fun _ _ _ h => h) (Or.inl ⟨by rfl, ?_⟩) (by assumption) ?_
      rotate_left
      focus (intro w hSw; (try dsimp only at hSw); go_simp; try (with_reducible rfl))
      try simp only [List.getElem_toArray, List.getElem_cons_zero, List.getElem_cons_succ, Act.put, List.setIfInBounds_toArray, List.set_cons_zero, List.set_cons_succ]
      refine wpAnyH_done (by kernel_rfl) ?_ _
      refine NoPanic.normal ?_
      clear ws b0 b1 r0
      go_wp2_with fail
      go_roundw
      case rel => exact ⟨k + 1, by omega, by go_num, by rw [HSN.out], B3.out, B4.out⟩
      case measure => simp [intOf]; omega
    · obtain rfl : k = M := by omega
      obtain ⟨b0, b1, f0, f1, hb0⟩ := box2 hG
      go_wp2_with fail
      go_ret
      exact ⟨ret_int (by rw [← HS.out, HM.out, sumK_all]), HB1.out⟩
theorem iCntF {n : Int} {ls : List LinkD} {b : Int} (h : GOk n ls) (hb : nd n.toNat b) : ∀ (f : Nat) (x : Int), f ≤ 8 → nd n.toNat x → rk n.toNat (distG n ls b) x ≤ f → CntsTo 50 n ls b x (cnt n.toNat (cstL ls) (distG n ls b) b f x)
  | 0, x, _, hx, hr => by
    by_cases e : x = b
    · subst e
      have : cnt n.toNat (cstL ls) (distG n ls x) x 0 x = 1 := by simp [cnt]
      rw [this]; exact iCntEq n ls x
    · have hno : ∀ m ∈ hopsG n ls x b, False := fun m hm => by have := rk_hop hm; omega
      have := iCntStep (cs := fun _ => 0) h hx hb e (fun m hm => (hno m hm).elim) (fun m hm => (hno m hm).elim)
      have h0 : hopsG n ls x b = [] := List.eq_nil_iff_forall_not_mem.2 fun m hm => hno m hm
      have h1 : cnt n.toNat (cstL ls) (distG n ls b) b 0 x = 0 := by simp [cnt, e]
      rw [h1]
      rw [h0] at this
      simpa using this
  | f + 1, x, hf, hx, hr => by
    by_cases e : x = b
    · subst e
      have : cnt n.toNat (cstL ls) (distG n ls x) x (f + 1) x = 1 := by simp [cnt]
      rw [this]; exact iCntEq n ls x
    · have h1 : cnt n.toNat (cstL ls) (distG n ls b) b (f + 1) x = ((hopsG n ls x b).map (cnt n.toNat (cstL ls) (distG n ls b) b f)).sum := by
        conv => lhs; unfold cnt
        rw [if_neg e]; rfl
      rw [h1]
      refine iCntStep h hx hb e (fun m _ => ⟨cnt_nn _ _ _ _ _ _, Int.le_trans (cnt_le (by have := h.n8; omega) _ _ _ f m) ?_⟩) (fun m hm => iCntF h hb f m (by omega) (mem_hopsL.1 hm).1 (by have := rk_hop hm; omega))
      have h2 : (8:Int) ^ f ≤ 8 ^ 7 := by
        have : (8:Nat) ^ f ≤ 8 ^ 7 := Nat.pow_le_pow_right (by omega) (by omega)
        exact_mod_cast this
      simpa using h2
theorem iCnt (n : Int) (ls : List LinkD) (a b : Int) (v : Value) (w : World) (hv : TriplesAt w v ls) (h : GOk n ls) (ha : nd n.toNat a) (hb : nd n.toNat b) :
    Calls Try.prog 50 #[.agg #[.int .i64 n, v], .int .i64 a, .int .i64 b] w fun e w' => e = .returned (.int .i64 (cntG n ls a b)) ∧ Below w.heap.size w w' :=
  iCntF h hb n.toNat a (by have := h.n8; omega) ha (rk_le _ _ _) v w hv
theorem sCntF {n : Int} {ls : List LinkD} {b : Int} (h : GOk n ls) (hb : nd n.toNat b) : ∀ (f : Nat) (x : Int), f ≤ 8 → nd n.toNat x → rk n.toNat (distG n ls b) x ≤ f → CntsTo 63 n ls b x (cnt n.toNat (cstL ls) (distG n ls b) b f x)
  | 0, x, _, hx, hr => by
    by_cases e : x = b
    · subst e
      have : cnt n.toNat (cstL ls) (distG n ls x) x 0 x = 1 := by simp [cnt]
      rw [this]; exact sCntEq n ls x
    · have hno : ∀ m ∈ hopsG n ls x b, False := fun m hm => by have := rk_hop hm; omega
      have := sCntStep (cs := fun _ => 0) h hx hb e (fun m hm => (hno m hm).elim) (fun m hm => (hno m hm).elim)
      have h0 : hopsG n ls x b = [] := List.eq_nil_iff_forall_not_mem.2 fun m hm => hno m hm
      have h1 : cnt n.toNat (cstL ls) (distG n ls b) b 0 x = 0 := by simp [cnt, e]
      rw [h1]
      rw [h0] at this
      simpa using this
  | f + 1, x, hf, hx, hr => by
    by_cases e : x = b
    · subst e
      have : cnt n.toNat (cstL ls) (distG n ls x) x (f + 1) x = 1 := by simp [cnt]
      rw [this]; exact sCntEq n ls x
    · have h1 : cnt n.toNat (cstL ls) (distG n ls b) b (f + 1) x = ((hopsG n ls x b).map (cnt n.toNat (cstL ls) (distG n ls b) b f)).sum := by
        conv => lhs; unfold cnt
        rw [if_neg e]; rfl
      rw [h1]
      refine sCntStep h hx hb e (fun m _ => ⟨cnt_nn _ _ _ _ _ _, Int.le_trans (cnt_le (by have := h.n8; omega) _ _ _ f m) ?_⟩) (fun m hm => sCntF h hb f m (by omega) (mem_hopsL.1 hm).1 (by have := rk_hop hm; omega))
      have h2 : (8:Int) ^ f ≤ 8 ^ 7 := by
        have : (8:Nat) ^ f ≤ 8 ^ 7 := Nat.pow_le_pow_right (by omega) (by omega)
        exact_mod_cast this
      simpa using h2
theorem sCnt (n : Int) (ls : List LinkD) (a b : Int) (v : Value) (w : World) (hv : TriplesAt w v ls) (h : GOk n ls) (ha : nd n.toNat a) (hb : nd n.toNat b) :
    Calls Try.prog 63 #[.agg #[.int .i64 n, v], .int .i64 a, .int .i64 b] w fun e w' => e = .returned (.int .i64 (cntG n ls a b)) ∧ Below w.heap.size w w' :=
  sCntF h hb n.toNat a (by have := h.n8; omega) ha (rk_le _ _ _) v w hv
set_option maxRecDepth 100000 in
set_option maxHeartbeats 1000000 in
theorem iPathCount (n : Int) (ls : List LinkD) (a b : Int) (v : Value) (w : World) (hv : TriplesAt w v ls) (h : GOk n ls) (ha : nd n.toNat a) (hb : nd n.toNat b) :
    Calls Try.prog 23 #[.agg #[.int .i64 n, v], .int .i64 a, .int .i64 b] w fun e w' => e = .returned (.int .i64 (cntG n ls a b)) ∧ Below w.heap.size w w' := by
  have HV := Lib.hid hv
  obtain ⟨va, vm, vc, rfl⟩ := hv.form
  have hi := h.nN.1 ha
  have hi2 := h.nN.1 hb
  have hg : (gOk n ls && inB a 0 (n - 1)) = true := by rw [gOk_iff.2 h, inB_iff.2 (by omega)]; rfl
  have hg2 : (gOk n ls && inB b 0 (n - 1)) = true := by rw [gOk_iff.2 h, inB_iff.2 (by omega)]; rfl
  have HG := Lib.hid h; have HA := Lib.hid ha; have HB := Lib.hid hb; have HGN := Lib.hid hg; have HGN2 := Lib.hid hg2
  clear hv h ha hb hg hg2 hi hi2
  go_enter Try.func23, Try.ntmps23
  go_wp2_with fail
  refine (iHasNode n a ls _ _ (HV.out.below (by with_reducible (repeat (first | (refine below_drewN ?_ _) | (refine Below.drew ?_) | (refine below_alloc ?_ (by first | omega | (simp; done) | (simp; omega)) _) | (refine Below.setCell ?_ (by first | omega | (simp; done) | (simp; omega)) _) | exact Below.refl _ _ | assumption | (refine below_call ?_ (by first | omega | (simp; done) | (simp; omega)) (by assumption))))) (Nat.le_refl _))).mono ?_
  rw [HGN.out]
  rintro e w1 ⟨rfl, hb⟩
  have G := Lib.hid (Box.call (b := w.heap.size) (c := #[.int .i64 n, .slice va vm vc]) (t := 25) hb (by with_reducible (repeat (first | (refine box_at _ _ _ ?_; first | rfl | (simp; done)) | apply Box.alloc | apply Box.drewN | apply Box.drew))))
  obtain ⟨G_0, G_1, G_2, G_3, G_4⟩ := box2 G.out
  have BW := Lib.hid (below_call (B := w.heap.size) (a := w) (by with_reducible (repeat (first | (refine below_drewN ?_ _) | (refine Below.drew ?_) | (refine below_alloc ?_ (by first | omega | (simp; done) | (simp; omega)) _) | (refine Below.setCell ?_ (by first | omega | (simp; done) | (simp; omega)) _) | exact Below.refl _ _ | assumption | (refine below_call ?_ (by first | omega | (simp; done) | (simp; omega)) (by assumption))))) (Nat.le_refl _) hb)
  clear hb
  go_wp2_with fail
  refine (iHasNode n b ls _ _ (HV.out.below BW.out (Nat.le_refl _))).mono ?_
  rw [HGN2.out]
  rintro e w2 ⟨rfl, hb⟩
  have kk := Lib.hid (below_call (B := w1.heap.size) (a := w1) (by with_reducible (repeat (first | (refine below_drewN ?_ _) | (refine Below.drew ?_) | (refine below_alloc ?_ (by first | omega | (simp; done) | (simp; omega)) _) | (refine Below.setCell ?_ (by first | omega | (simp; done) | (simp; omega)) _) | exact Below.refl _ _ | assumption | (refine below_call ?_ (by first | omega | (simp; done) | (simp; omega)) (by assumption))))) (Nat.le_refl _) hb)
  replace BW := Lib.hid (BW.out.trans (kk.out.mono BW.out.size))
  replace G := Lib.hid (G.out.below kk.out G.out.lt)
  clear G_0 G_1 G_2 G_3 G_4
  obtain ⟨G_0, G_1, G_2, G_3, G_4⟩ := box2 G.out
  clear hb kk
  go_wp2_with fail
  refine (iCnt n ls a b _ _ (HV.out.below BW.out (Nat.le_refl _)) HG.out HA.out HB.out).mono ?_
  rintro e w3 ⟨rfl, hb⟩
  have BW2 := Lib.hid (BW.out.trans (hb.mono BW.out.size))
  clear hb
  go_wp2_with fail
  go_ret
  exact ⟨rfl, BW2.out⟩
end Go.Proofs.Ytoebefpmfgkpoaa
