/- FnDbGraphLess: for every input the call returns true, and the arguments read afterwards as before. No condition (mkless.py). -/
import Derived.Test.YtnnkdoomjkccgaaDrawDg
import Derived.Test.YtnnkdoomjkccgaaDbG
import Derived.Test.YtnnkdoomjkccgaaMarkA
import Derived.Test.YtnnkdoomjkccgaaSrcL
import Derived.Test.YtnnkdoomjkccgaaRows
import Derived.Test.YtnnkdoomjkccgaaOpen
import Derived.ProofKit
import Derived.OpenShut
import Derived.ShutString
import Derived.ChangeOld
import Derived.Lib.SmallJoins
namespace Go.Proofs.Ytnnkdoomjkccgaa.lawFnDbGraphLess
set_option linter.unusedSimpArgs false
set_option linter.unusedVariables false
open Go.ChangeShapes Go.WideShapes Go.ChangeAt Go.RowKit Go.Joins
theorem nbO_nil {n : Int} {ls : List LinkD} {a : Int} (h : nbL n ls a = []) : nbO n ls a = [] := by
  unfold nbO
  split
  · exact h
  · rfl
theorem madeNil {w w' : World} {e : Ending} (h : MadeInts w [] e w') : ∃ A c, e = .returned (.slice A 0 c) ∧ Below w.heap.size w w' := by
  obtain ⟨v, rfl, hO, hb⟩ := h
  obtain ⟨A, c, rfl⟩ := own_slice hO.1
  exact ⟨A, c, rfl, hb⟩
/-- What the law carries: the world below, the announcements. -/
structure StB (w : World) (v : Value) (db : List LsaD) (W : World) : Prop where
  bw : Below w.heap.size w W
  lsa : LsasAt W v db
theorem StB.below {w : World} {v : Value} {db : List LsaD} {W W' : World} (h : StB w v db W) (hb : Below W.heap.size W W') : StB w v db W' := ⟨h.bw.trans (hb.mono h.bw.size), h.lsa.below hb (Nat.le_refl _)⟩
theorem lsasOpen {w : World} {v : Value} {db : List LsaD} (h : LsasAt w v db) : ∃ A c, v = .slice A db.length c ∧ db.length ≤ c ∧ c ≤ maxLen := let ⟨A, c, _, _, hv, h1, h2, _⟩ := h; ⟨A, c, hv, h1, h2⟩
theorem lsasOrigin {w : World} {A : Option Addr} {c k : Nat} {db : List LsaD} {d : LsaD} (h : LsasAt w (.slice A db.length c) db) (hd : db[k]? = some d) : ∃ b o, A = some ⟨b, o, none⟩ ∧ w.cell? ⟨b, o + k * 3, none⟩ = some (.int .i64 d.1) := by
  obtain ⟨A', c', b, o, e, h1, h2, h3, h4⟩ := h
  injection e with e _ _
  obtain ⟨x, y, z⟩ := d
  have hl := (List.getElem?_eq_some_iff.1 hd).1
  obtain ⟨_, c0, _⟩ := h4 k x y z hd
  exact ⟨b, o, e.trans (h3 (by omega)), c0⟩
set_option maxRecDepth 100000 in
set_option maxHeartbeats 8000000 in
theorem walk (v v2 : Value) (w : World) (h : CodeAt w v) (h2 : CodeAt w v2) :
    Calls Try.prog 7 #[v, v2] w fun e w' => e = .returned (.bool true) ∧ Below w.heap.size w w' := by
  obtain ⟨a0, n0, cap0, b0, off0, rfl, hcap0, hmax0, ha0, hc0⟩ := id h
  unfold maxLen at hmax0
  clear ha0 hc0
  have H := Lib.hid h
  clear h
  obtain ⟨a3, n3, cap3, b3, off3, rfl, hcap3, hmax3, ha3, hc3⟩ := h2
  unfold maxLen at hmax3
  clear ha3 hc3
  by_cases hn : 1048576 < n0
  · have t0 : decide ((1048576:Int) < (n0:Int)) = true := by simp; omega
    go_enter Try.func7, Try.ntmps7
    go_wp2
    go_ret
    exact ⟨rfl, Below.refl _ _⟩
  have t0 : decide ((1048576:Int) < (n0:Int)) = false := by simp; omega
  by_cases hn3 : 1048576 < n3
  · have t1 : decide ((1048576:Int) < (n3:Int)) = true := by simp; omega
    go_enter Try.func7, Try.ntmps7
    go_wp2
    go_ret
    exact ⟨rfl, Below.refl _ _⟩
  have t1 : decide ((1048576:Int) < (n3:Int)) = false := by simp; omega
  go_enter Try.func7, Try.ntmps7
  go_wp2_with fail
  refine (drawDbg _ _ H.out).mono ?_
  rintro e w1 ⟨⟨n, dv, db, rfl, hL, hl100⟩, hb⟩
  obtain ⟨da, dc, rfl, hdc, hdm⟩ := lsasOpen hL
  unfold maxLen at hdm
  obtain ⟨m, hm⟩ : ∃ m, m = db.length := ⟨_, rfl⟩
  have HST : Hid (StB w (.slice da db.length dc) db w1) := Lib.hid ⟨hb, hL⟩
  rw [← hm] at HST hdc hl100 ⊢
  have HM := Lib.hid hm
  clear hL hb hm
  obtain ⟨⟨⟨gn, gg⟩, q⟩, hd⟩ : ∃ r, dgO n db = r := ⟨_, rfl⟩
  have HD := Lib.hid hd
  clear hd
  go_wp2_with fail
  refine ((iDbGraph n db _ _ HST.out.lsa).mono fun _ _ h => dg_at HD.out h).mono ?_
  rintro e w2 ⟨u2, rfl, hO, hb⟩
  replace HST := Lib.hid (HST.out.below hb)
  have HG2 := Lib.hid (own_triples hO)
  obtain ⟨ua, uc, rfl⟩ := own_slice hO.1
  clear hO hb
  go_wp2_with fail
  have kb : Below w2.heap.size w2 (w2.alloc (.cells #[.int .i64 gn, .slice ua gg.length uc] 26)) := (Below.refl _ _).alloc (Nat.le_refl _) _
  refine ((sDbGraph n db _ _ (HST.out.lsa.below kb (Nat.le_refl _))).mono fun _ _ h => dg_at HD.out h).mono ?_
  rintro e w3 ⟨u3, rfl, hO, hb⟩
  replace HST := Lib.hid ((HST.out.below kb).below hb)
  replace HG2 := Lib.hid ((HG2.out.below kb (Nat.le_refl _)).below hb (Nat.le_refl _))
  have HC2 := Lib.hid ((box_new w2 #[.int .i64 gn, .slice ua gg.length uc] 26).below hb (by simp))
  have HG3 := Lib.hid (own_triples hO)
  obtain ⟨va, vc, rfl⟩ := own_slice hO.1
  clear hO hb kb
  obtain ⟨c0, c1, f0, f1, l0⟩ := box2 HC2.out
  have hqq : (q != q) = false := by simp
  have hqe : (q == q) = true := by simp
  go_wp2_with fail
  have kb : Below w3.heap.size w3 (w3.alloc (.cells #[.int .i64 gn, .slice va gg.length vc] 26)) := (Below.refl _ _).alloc (Nat.le_refl _) _
  refine (sameGraph_self gn gg _ _ _ (HG2.out.below kb (Nat.le_refl _)) (HG3.out.below kb (Nat.le_refl _))).mono ?_
  rintro e w4 ⟨rfl, hb⟩
  replace HST := Lib.hid ((HST.out.below kb).below hb)
  replace HG2 := Lib.hid ((HG2.out.below kb (Nat.le_refl _)).below hb (Nat.le_refl _))
  replace HG3 := Lib.hid ((HG3.out.below kb (Nat.le_refl _)).below hb (Nat.le_refl _))
  replace HC2 := Lib.hid ((HC2.out.alloc (.cells #[.int .i64 gn, .slice va gg.length vc] 26)).below hb (by have := HC2.out.lt; simp; omega))
  have HC3 := Lib.hid ((box_new w3 #[.int .i64 gn, .slice va gg.length vc] 26).below hb (by simp))
  clear hb kb c0 c1 f0 f1 l0
  have hfin : (q = false ∨ m = 0) ∨ (q = true ∧ 0 < m) := by
    cases q with
    | false => exact .inl (.inl rfl)
    | true =>
      rcases Nat.eq_zero_or_pos m with h0 | h0
      · exact .inl (.inr h0)
      · exact .inr ⟨rfl, h0⟩
  rcases hfin with hfin | ⟨hqt, hm0⟩
  · obtain ⟨c0, c1, f0, f1, l0⟩ := box2 HC2.out
    obtain ⟨d0, d1, g0, g1, k0⟩ := box2 HC3.out
    have HFIN := Lib.hid hfin
    clear hfin
    cases q with
    | false =>
      go_wp2_with fail
      refine (sameGraph_self gn gg _ _ _ HG2.out HG3.out).mono ?_
      rintro e w5 ⟨rfl, hb⟩
      replace HST := Lib.hid (HST.out.below hb)
      clear hb
      go_wp2_with fail
      go_ret
      exact ⟨rfl, HST.out.bw⟩
    | true =>
      have hm0 : m = 0 := by rcases HFIN.out with h | h; cases h; exact h
      have hz : ((m:Int) == 0) = true := by rw [hm0]; rfl
      clear hm0
      go_wp2_with fail
      refine (sameGraph_self gn gg _ _ _ HG2.out HG3.out).mono ?_
      rintro e w5 ⟨rfl, hb⟩
      replace HST := Lib.hid (HST.out.below hb)
      clear hb
      go_wp2_with fail
      go_ret
      exact ⟨rfl, HST.out.bw⟩
  subst hqt
  have hz : ((m:Int) == 0) = false := by simp; omega
  obtain ⟨k, hk, hkm⟩ : ∃ k : Nat, (n3:Int) % (m:Int) = (k:Int) ∧ k < m := ⟨n3 % m, by first | rfl | simp, Nat.mod_lt _ hm0⟩
  have hne : (m:Int) ≠ 0 := by omega
  have htm : (n3:Int).tmod (m:Int) = (k:Int) := by rw [Int.tmod_eq_emod_of_nonneg (by omega)]; exact hk
  have wk : IntKind.i64.wrap (k:Int) = (k:Int) := IntWalk.i64_in _ (by omega)
  have wk1 : IntKind.i64.wrap ((k:Int) + 1) = (k:Int) + 1 := IntWalk.i64_in _ (by omega)
  obtain ⟨d, hd⟩ := at_lt HM.out hkm
  have hless : ∃ gl, dgO n (db.take k ++ db.drop (k + 1)) = ((n, gl), true) ∧ nbL n gl d.1 = [] := by
    rcases dgO_cases n db with h | ⟨h, h1, h2, h3, h4, _⟩
    · rw [HD.out] at h
      injection h with _ h
      cases h
    · obtain ⟨e1, _, e3⟩ := dg_less h1 h2 h3 h4 hd
      exact ⟨_, e1, e3⟩
  obtain ⟨gl, hdl, hnb⟩ := hless
  have HDL := Lib.hid hdl
  have HNB := Lib.hid (nbO_nil hnb)
  have HDD := Lib.hid hd
  clear hk hd hdl hnb HC2 HC3 HG2 HG3
  go_wp2_with fail
  obtain ⟨W9, hW9⟩ : ∃ W, W = w4 := ⟨_, rfl⟩
  subst hW9
  obtain ⟨A', c', us, hAe, _, _, hul, hsrc, hpr, hu1⟩ := lsas_src HST.out.lsa
  rw [← HM.out] at hAe hsrc hul
  injection hAe with e1 _ e3
  subst e1
  obtain ⟨i0, hi, hz0, hz1, hz2⟩ := info_parts infoL
  obtain ⟨c1, hs1, S1⟩ := cut_head Try.underlying29 hi hz1 hsrc hdc k (by omega)
  obtain ⟨A2, c2, hs2', S2⟩ := cut_tail Try.underlying29 hi hz1 hsrc hdc (k + 1) (by omega)
  have hs2 : ∀ W : World, (Instr.slice 29 (.slice da m dc) (some (.int .i64 ((k : Int) + 1))) none none).run Try.prog W = .ok (.slice A2 (m - (k + 1)) c2) W := hs2'
  have hki0 : (0 : Int) ≤ (k : Int) := by omega
  have hki1 : (k : Int) ≤ (dc : Int) := by omega
  have hki2 : (0 : Int) ≤ (k : Int) + 1 := by omega
  have hki3 : (k : Int) + 1 ≤ (m : Int) := by omega
  have hki4 : ((k : Int) + 1).toNat = k + 1 := by omega
  have HS1 := Lib.hid S1; have HS2 := Lib.hid S2
  have HU1 : Hid (∀ u ∈ (cellsL db us).take (k * 3), u.oneCell' = true) := Lib.hid fun u hu => cellsL_one db us hu1 u (List.mem_of_mem_take hu)
  have HU2 : Hid (∀ u ∈ (cellsL db us).drop ((k + 1) * 3), u.oneCell' = true) := Lib.hid fun u hu => cellsL_one db us hu1 u (List.mem_of_mem_drop hu)
  have HI := Lib.hid hi; have HZ0 := Lib.hid hz0; have HZ1 := Lib.hid hz1; have HZ2 := Lib.hid hz2
  have hul2 : us.length = db.length := hul.trans HM.out
  have hrow : ∀ (base : Nat) (v : Value) (W : World), W.ownsRow base 41 3 v (k + (m - (k + 1))) ((cellsL db us).take (k * 3) ++ (cellsL db us).drop ((k + 1) * 3)) → (∀ (j : Nat) (o s : Int) (es : List (Int × Int)) (u : Value), db[j]? = some (o, s, es) → us[j]? = some u → PairsAt W u es) → LsasAt W v (db.take k ++ db.drop (k + 1)) := fun base v W hr hp => by
    have hlen : (db.take k ++ db.drop (k + 1)).length = k + (m - (k + 1)) := by rw [List.length_append, List.length_take, List.length_drop, ← HM.out]; omega
    have ht : (us.take k).length = (db.take k).length := by rw [List.length_take, List.length_take, hul2]
    refine lsas_of_row (base := base) (t := 41) (us := us.take k ++ us.drop (k + 1)) ?_ ?_ ?_
    · rw [hlen, cellsL_append _ _ _ _ ht, cellsL_take db us k hul2, cellsL_drop db us (k + 1) hul2]
      exact hr
    · rw [List.length_append, List.length_append, List.length_take, List.length_take, List.length_drop, List.length_drop, hul2]
    · intro j o s es u hj hu
      rw [erase_at] at hj hu
      split at hj
      · exact hp j o s es u hj (by rename_i h; rw [if_pos h] at hu; exact hu)
      · exact hp (j + 1) o s es u hj (by rename_i h; rw [if_neg h] at hu; exact hu)
  have HROW9 : Hid (∀ (base : Nat) (v : Value) (W : World), W.ownsRow base 41 3 v (k + (m - (k + 1))) ((cellsL db us).take (k * 3) ++ (cellsL db us).drop ((k + 1) * 3)) → Below W9.heap.size W9 W → LsasAt W v (db.take k ++ db.drop (k + 1))) := Lib.hid fun base v W hr hb => hrow base v W hr fun j o s es u hj hu => (hpr j o s es u hj hu).below hb (Nat.le_refl _)
  have hkm1 : k + 1 ≤ m := hkm
  clear hs2' hsrc S1 S2 hi hz0 hz1 hz2 e3 hul hul2 hrow hpr hu1
  go_upto_region 9 with fail
  go_cut [12, 13] (fun pv fv wc => ∃ (P : Nat) (ga : Option Addr) (gc : Nat), pv = .pointer (some ⟨P, 0, none⟩) ∧ fv = .bool true ∧ Below W9.heap.size W9 wc ∧ Box wc P #[.int .i64 n, .slice ga gl.length gc] 26 ∧ TriplesAt wc (.slice ga gl.length gc) gl)
  case first =>
    refine wp_region_noPanic ?_
    refine wp_region_held_drew (S := (fun _ => True)) (by kernel_rfl) trivial (fun hHeld => ?_)
    obtain ⟨x0, hx0⟩ : ∃ W, W9.drew = W := ⟨_, rfl⟩
    have HST0 : Hid (StB w (.slice da m dc) db W9.drew) := Lib.hid (HST.out.below (Below.refl _ _).drew)
    have HS1d : Hid (SrcAt W9.drew da k 3 ((cellsL db us).take (k * 3))) := HS1
    have HS2d : Hid (SrcAt W9.drew A2 (m - (k + 1)) 3 ((cellsL db us).drop ((k + 1) * 3))) := HS2
    rw [hx0] at HST0 HS1d HS2d ⊢
    have HX0 : Hid (Below W9.heap.size W9 x0) := Lib.hid (by rw [← hx0]; exact (Below.refl _ _).drew)
    clear hx0 HS1 HS2
    have HS1 := HS1d; have HS2 := HS2d
    clear HS1d HS2d
    have HB0 : Hid (Below x0.heap.size x0 x0) := Lib.hid (Below.refl _ _)
    refine wpAnyH_take (i := 0) (oi := _) (v := ?_) rfl (by kernel_rfl) (by kernel_rfl) (by kernel_rfl) (fun _ _ _ h => h) (Or.inl ⟨by rfl, ?_⟩) (by assumption) ?_
    rotate_left
    focus (intro w hSw; (try dsimp only at hSw); go_simp; try (with_reducible rfl))
    try simp only [List.getElem_toArray, List.getElem_cons_zero, List.getElem_cons_succ, Act.put, List.setIfInBounds_toArray, List.set_cons_zero, List.set_cons_succ]
    refine wpAnyH_take (i := 2) (oi := _) (v := ?_) rfl (by kernel_rfl) (by kernel_rfl) (by kernel_rfl) (fun _ _ _ h => h) (Or.inl ⟨by rfl, ?_⟩) (by assumption) ?_
    rotate_left
    focus (intro w hSw; (try dsimp only at hSw); go_simp; try (with_reducible rfl))
    try simp only [List.getElem_toArray, List.getElem_cons_zero, List.getElem_cons_succ, Act.put, List.setIfInBounds_toArray, List.set_cons_zero, List.set_cons_succ]
    refine wpAnyH_take (i := 3) (oi := _) (v := ?_) rfl (by kernel_rfl) (by kernel_rfl) (by kernel_rfl) (fun _ _ _ h => h) (Or.inl ⟨by rfl, ?_⟩) (by assumption) ?_
    rotate_left
    focus (intro w hSw; (try dsimp only at hSw); go_simp; try (with_reducible rfl))
    try simp only [List.getElem_toArray, List.getElem_cons_zero, List.getElem_cons_succ, Act.put, List.setIfInBounds_toArray, List.set_cons_zero, List.set_cons_succ]
    refine wpAnyH_take (i := 4) (oi := _) (v := ?_) rfl (by kernel_rfl) (by kernel_rfl) (by kernel_rfl) (fun _ _ _ h => h) (Or.inl ⟨by rfl, ?_⟩) (by assumption) ?_
    rotate_left
    focus (intro w hSw; (try dsimp only at hSw); go_simp; try (with_reducible rfl))
    try simp only [List.getElem_toArray, List.getElem_cons_zero, List.getElem_cons_succ, Act.put, List.setIfInBounds_toArray, List.set_cons_zero, List.set_cons_succ]
    refine wpAnyH_take (i := 6) (oi := _) (v := ?_) rfl (by kernel_rfl) (by kernel_rfl) (by kernel_rfl) (fun _ _ _ h => h) (Or.inl ⟨by rfl, ?_⟩) (by assumption) ?_
    rotate_left
    focus (intro w hSw; (try dsimp only at hSw); go_simp; try (with_reducible rfl))
    try simp only [List.getElem_toArray, List.getElem_cons_zero, List.getElem_cons_succ, Act.put, List.setIfInBounds_toArray, List.set_cons_zero, List.set_cons_succ]
    refine wpAnyH_take (i := 7) (oi := _) (v := ?_) rfl (by kernel_rfl) (by kernel_rfl) (by kernel_rfl) (fun _ _ _ h => h) (Or.inl ⟨by rfl, ?_⟩) (by assumption) ?_
    rotate_left
    focus (intro w hSw; (try dsimp only at hSw); go_simp; try (with_reducible rfl))
    try simp only [List.getElem_toArray, List.getElem_cons_zero, List.getElem_cons_succ, Act.put, List.setIfInBounds_toArray, List.set_cons_zero, List.set_cons_succ]
    refine wpAnyH_take (i := 8) (oi := _) (v := ?_) rfl (by kernel_rfl) (by kernel_rfl) (by kernel_rfl) (fun _ _ _ h => h) (Or.inl ⟨by rfl, ?_⟩) (by assumption) ?_
    rotate_left
    focus (intro w hSw; (try dsimp only at hSw); go_simp; try (with_reducible rfl))
    try simp only [List.getElem_toArray, List.getElem_cons_zero, List.getElem_cons_succ, Act.put, List.setIfInBounds_toArray, List.set_cons_zero, List.set_cons_succ]
    refine wpAnyH_take (i := 9) (oi := _) (v := ?_) rfl (by kernel_rfl) (by kernel_rfl) (by kernel_rfl) (fun _ _ _ h => h) (Or.inl ⟨by rfl, ?_⟩) (by assumption) ?_
    rotate_left
    focus (intro w hSw; (try dsimp only at hSw); go_simp; try (with_reducible rfl))
    try simp only [List.getElem_toArray, List.getElem_cons_zero, List.getElem_cons_succ, Act.put, List.setIfInBounds_toArray, List.set_cons_zero, List.set_cons_succ]
    refine wpAnyH_ready (rs := [1, 15]) (by kernel_rfl) (by simp) ?_
    refine AllReadyH.cons (o := _) rfl (fun K hK => ?_) (AllReadyH.cons (o := _) rfl (fun K hK => ?_) AllReadyH.nil)
    · go_simp
      have HR : Hid ((x0.alloc (.cells #[] 41)).ownsRow x0.heap.size 41 3 (.slice (some ⟨x0.heap.size, 0, none⟩) 0 0) 0 []) := Lib.hid (own_new rfl HB0.out.size)
      replace HB0 := Lib.hid (HB0.out.alloc HB0.out.size (.cells #[] 41))
      obtain ⟨y1, hy1⟩ : ∃ X, x0.alloc (.cells #[] 41) = X := ⟨_, rfl⟩
      rw [hy1] at HB0 HR ⊢
      clear hy1
      refine hK.out _ _ trivial (fun hHeld => ?_)
      clear hK K
      try simp only [List.getElem_toArray, List.getElem_cons_zero, List.getElem_cons_succ, Act.put, List.setIfInBounds_toArray, List.set_cons_zero, List.set_cons_succ]
      refine wpAnyH_ready (rs := [5, 15]) (by kernel_rfl) (by simp) ?_
      refine AllReadyH.cons (o := _) rfl (fun K hK => ?_) (AllReadyH.cons (o := _) rfl (fun K hK => ?_) AllReadyH.nil)
      · refine step_append_rd (by rfl) _ _ _ (by rfl) x0.heap.size 41 i0 _ 3 40 Try.underlying29 HI.out HZ0.out HZ1.out HZ2.out rfl (by omega) (.slice (some ⟨x0.heap.size, 0, none⟩) 0 0) 0 [] (by rfl) HR.out da k c1 ((cellsL db us).take (k * 3)) (by rfl) (HS1.out.below HB0.out (Nat.le_refl _)) HU1.out (by unfold maxLen; omega) (by omega) HB0.out.size ?_
        intro v4 y2 hown hgrow hloc
        have HBn := Lib.hid (Below.grown HB0.out hgrow HB0.out.size (fun j hj => (HR.out.lt j hj).1))
        clear HB0 HR
        have HB0 := HBn
        clear HBn
        have HR : Hid (y2.ownsRow x0.heap.size 41 3 v4 k ((cellsL db us).take (k * 3))) := Lib.hid (by simpa using hown)
        obtain ⟨a4, c4, rfl⟩ := own_slice HR.out
        clear hown hgrow hloc
        refine hK.out _ _ trivial (fun hHeld => ?_)
        clear hK K
        try simp only [List.getElem_toArray, List.getElem_cons_zero, List.getElem_cons_succ, Act.put, List.setIfInBounds_toArray, List.set_cons_zero, List.set_cons_succ]
        refine wpAnyH_ready (rs := [10, 15]) (by kernel_rfl) (by simp) ?_
        refine AllReadyH.cons (o := _) rfl (fun K hK => ?_) (AllReadyH.cons (o := _) rfl (fun K hK => ?_) AllReadyH.nil)
        · refine step_append_rd (by rfl) _ _ _ (by rfl) x0.heap.size 41 i0 _ 3 40 Try.underlying29 HI.out HZ0.out HZ1.out HZ2.out rfl (by omega) (.slice a4 k c4) k ((cellsL db us).take (k * 3)) (by rfl) HR.out A2 (m - (k + 1)) c2 ((cellsL db us).drop ((k + 1) * 3)) (by rfl) (HS2.out.below HB0.out (Nat.le_refl _)) HU2.out (by unfold maxLen; omega) (by omega) HB0.out.size ?_
          intro v4 y3 hown hgrow hloc
          have HBn := Lib.hid (Below.grown HB0.out hgrow HB0.out.size (fun j hj => (HR.out.lt j hj).1))
          clear HB0 HR
          have HB0 := HBn
          clear HBn
          have HL5 : Hid (LsasAt y3 v4 (db.take k ++ db.drop (k + 1))) := Lib.hid (HROW9.out x0.heap.size v4 _ hown (HX0.out.trans (HB0.out.mono HX0.out.size)))
          obtain ⟨a5, c5, rfl⟩ := own_slice hown
          clear hown hgrow hloc
          refine hK.out _ _ trivial (fun hHeld => ?_)
          clear hK K
          try simp only [List.getElem_toArray, List.getElem_cons_zero, List.getElem_cons_succ, Act.put, List.setIfInBounds_toArray, List.set_cons_zero, List.set_cons_succ]
          refine wpAnyH_ready (rs := [11, 15]) (by kernel_rfl) (by simp) ?_
          refine AllReadyH.cons (o := _) rfl (fun K hK => ?_) (AllReadyH.cons (o := _) rfl (fun K hK => ?_) AllReadyH.nil)
          · go_simp
            go_at_call 12
            refine ((iDbGraph n (db.take k ++ db.drop (k + 1)) _ _ HL5.out).mono fun _ _ h => dg_at HDL.out h).mono ?_
            rintro e y4 ⟨u5, rfl, hO, hb⟩
            have HO := Lib.hid (hO.mono HB0.out.size (Nat.le_refl _)).1
            obtain ⟨ga, gc, rfl⟩ := own_slice hO.1
            replace HB0 := Lib.hid (HB0.out.trans (hb.mono HB0.out.size))
            clear hb hO HL5
            refine hK.out _ _ trivial (fun hHeld => ?_)
            clear hK K
            try simp only [List.getElem_toArray, List.getElem_cons_zero, List.getElem_cons_succ, Act.put, List.setIfInBounds_toArray, List.set_cons_zero, List.set_cons_succ]
            refine wpAnyH_take (i := 12) (oi := _) (v := ?_) rfl (by kernel_rfl) (by kernel_rfl) (by kernel_rfl) (fun _ _ _ h => h) (Or.inl ⟨by rfl, ?_⟩) (by assumption) ?_
            rotate_left
            focus (intro w hSw; (try dsimp only at hSw); go_simp; try (with_reducible rfl))
            try simp only [List.getElem_toArray, List.getElem_cons_zero, List.getElem_cons_succ, Act.put, List.setIfInBounds_toArray, List.set_cons_zero, List.set_cons_succ]
            refine wpAnyH_take (i := 13) (oi := _) (v := ?_) rfl (by kernel_rfl) (by kernel_rfl) (by kernel_rfl) (fun _ _ _ h => h) (Or.inl ⟨by rfl, ?_⟩) (by assumption) ?_
            rotate_left
            focus (intro w hSw; (try dsimp only at hSw); go_simp; try (with_reducible rfl))
            try simp only [List.getElem_toArray, List.getElem_cons_zero, List.getElem_cons_succ, Act.put, List.setIfInBounds_toArray, List.set_cons_zero, List.set_cons_succ]
            refine wpAnyH_take (i := 14) (oi := _) (v := ?_) rfl (by kernel_rfl) (by kernel_rfl) (by kernel_rfl) (fun _ _ _ h => h) (Or.inl ⟨by rfl, ?_⟩) (by assumption) ?_
            rotate_left
            focus (intro w hSw; (try dsimp only at hSw); go_simp; try (with_reducible rfl))
            try simp only [List.getElem_toArray, List.getElem_cons_zero, List.getElem_cons_succ, Act.put, List.setIfInBounds_toArray, List.set_cons_zero, List.set_cons_succ]
            refine wpAnyH_ready (rs := [15]) (by kernel_rfl) (by simp) ?_
            refine AllReadyH.cons (o := _) rfl (fun K hK => ?_) AllReadyH.nil
            go_simp
            have BP := Lib.hid (box_new y4 #[.int .i64 0, .slice none 0 0] 26)
            have hPx : x0.heap.size ≤ y4.heap.size := HB0.out.size
            replace HB0 := Lib.hid (HB0.out.alloc HB0.out.size (.cells #[.int .i64 0, .slice none 0 0] 26))
            replace HO := Lib.hid (HO.out.alloc (.cells #[.int .i64 0, .slice none 0 0] 26))
            obtain ⟨y5, hy5⟩ : ∃ X, y4.alloc (.cells #[.int .i64 0, .slice none 0 0] 26) = X := ⟨_, rfl⟩
            rw [hy5] at HB0 HO BP ⊢
            clear hy5
            refine hK.out _ _ trivial (fun hHeld => ?_)
            clear hK K
            try simp only [List.getElem_toArray, List.getElem_cons_zero, List.getElem_cons_succ, Act.put, List.setIfInBounds_toArray, List.set_cons_zero, List.set_cons_succ]
            have _p := box2 BP.out; have p0 := _p.1; have p1 := _p.2.1; have q0 := _p.2.2.1; have q1 := _p.2.2.2.1; have hp0 := _p.2.2.2.2; clear _p
            refine wpAnyH_ready (rs := [16]) (by kernel_rfl) (by simp) ?_
            refine AllReadyH.cons (o := _) rfl (fun K hK => ?_) AllReadyH.nil
            go_simp
            have HO2 := Lib.hid (own_setOther (own_setOther HO.out (a := ⟨y4.heap.size, 0, none⟩) (box_own_ne BP.out HO.out (by decide)) (.int .i64 n)) (a := ⟨y4.heap.size, 1, none⟩) (box_own_ne BP.out HO.out (by decide)) (.slice ga gl.length gc))
            have BP2 := Lib.hid (box2_set1 (box2_set0 BP.out (.int .i64 n)) (.slice ga gl.length gc))
            have HB2 := Lib.hid ((HB0.out.setCell (p := ⟨y4.heap.size, 0, none⟩) hPx (.int .i64 n)).setCell (p := ⟨y4.heap.size, 1, none⟩) hPx (.slice ga gl.length gc))
            refine hK.out _ _ trivial (fun hHeld => ?_)
            clear hK K
            try simp only [List.getElem_toArray, List.getElem_cons_zero, List.getElem_cons_succ, Act.put, List.setIfInBounds_toArray, List.set_cons_zero, List.set_cons_succ]
            refine wpAnyH_take (i := 17) (oi := _) (v := ?_) rfl (by kernel_rfl) (by kernel_rfl) (by kernel_rfl) (fun _ _ _ h => h) (Or.inl ⟨by rfl, ?_⟩) (by assumption) ?_
            rotate_left
            focus (intro w hSw; (try dsimp only at hSw); go_simp; try (with_reducible rfl))
            try simp only [List.getElem_toArray, List.getElem_cons_zero, List.getElem_cons_succ, Act.put, List.setIfInBounds_toArray, List.set_cons_zero, List.set_cons_succ]
            refine wpAnyH_done (by kernel_rfl) ?_ _
            refine NoPanic.normal ?_
            go_wp2_with fail
            go_meet
            exact ⟨_, ga, gc, rfl, rfl, HX0.out.trans (HB2.out.mono HX0.out.size), BP2.out, triples_of_owns HO2.out⟩
          · go_simp
            have BP := Lib.hid (box_new y3 #[.int .i64 0, .slice none 0 0] 26)
            have hPx : x0.heap.size ≤ y3.heap.size := HB0.out.size
            replace HB0 := Lib.hid (HB0.out.alloc HB0.out.size (.cells #[.int .i64 0, .slice none 0 0] 26))
            replace HL5 := Lib.hid (HL5.out.below ((Below.refl _ _).alloc (Nat.le_refl _) (.cells #[.int .i64 0, .slice none 0 0] 26)) (Nat.le_refl _))
            obtain ⟨y6, hy6⟩ : ∃ X, y3.alloc (.cells #[.int .i64 0, .slice none 0 0] 26) = X := ⟨_, rfl⟩
            rw [hy6] at HB0 HL5 BP ⊢
            clear hy6
            refine hK.out _ _ trivial (fun hHeld => ?_)
            clear hK K
            try simp only [List.getElem_toArray, List.getElem_cons_zero, List.getElem_cons_succ, Act.put, List.setIfInBounds_toArray, List.set_cons_zero, List.set_cons_succ]
            refine wpAnyH_ready (rs := [11]) (by kernel_rfl) (by simp) ?_
            refine AllReadyH.cons (o := _) rfl (fun K hK => ?_) AllReadyH.nil
            go_simp
            go_at_call 12
            refine ((iDbGraph n (db.take k ++ db.drop (k + 1)) _ _ HL5.out).mono fun _ _ h => dg_at HDL.out h).mono ?_
            rintro e y7 ⟨u5, rfl, hO, hb⟩
            have HO := Lib.hid (hO.mono HB0.out.size (Nat.le_refl _)).1
            obtain ⟨ga, gc, rfl⟩ := own_slice hO.1
            replace BP := Lib.hid (BP.out.below hb BP.out.lt)
            replace HB0 := Lib.hid (HB0.out.trans (hb.mono HB0.out.size))
            clear hb hO HL5
            refine hK.out _ _ trivial (fun hHeld => ?_)
            clear hK K
            try simp only [List.getElem_toArray, List.getElem_cons_zero, List.getElem_cons_succ, Act.put, List.setIfInBounds_toArray, List.set_cons_zero, List.set_cons_succ]
            refine wpAnyH_take (i := 12) (oi := _) (v := ?_) rfl (by kernel_rfl) (by kernel_rfl) (by kernel_rfl) (fun _ _ _ h => h) (Or.inl ⟨by rfl, ?_⟩) (by assumption) ?_
            rotate_left
            focus (intro w hSw; (try dsimp only at hSw); go_simp; try (with_reducible rfl))
            try simp only [List.getElem_toArray, List.getElem_cons_zero, List.getElem_cons_succ, Act.put, List.setIfInBounds_toArray, List.set_cons_zero, List.set_cons_succ]
            refine wpAnyH_take (i := 13) (oi := _) (v := ?_) rfl (by kernel_rfl) (by kernel_rfl) (by kernel_rfl) (fun _ _ _ h => h) (Or.inl ⟨by rfl, ?_⟩) (by assumption) ?_
            rotate_left
            focus (intro w hSw; (try dsimp only at hSw); go_simp; try (with_reducible rfl))
            try simp only [List.getElem_toArray, List.getElem_cons_zero, List.getElem_cons_succ, Act.put, List.setIfInBounds_toArray, List.set_cons_zero, List.set_cons_succ]
            refine wpAnyH_take (i := 14) (oi := _) (v := ?_) rfl (by kernel_rfl) (by kernel_rfl) (by kernel_rfl) (fun _ _ _ h => h) (Or.inl ⟨by rfl, ?_⟩) (by assumption) ?_
            rotate_left
            focus (intro w hSw; (try dsimp only at hSw); go_simp; try (with_reducible rfl))
            try simp only [List.getElem_toArray, List.getElem_cons_zero, List.getElem_cons_succ, Act.put, List.setIfInBounds_toArray, List.set_cons_zero, List.set_cons_succ]
            have _p := box2 BP.out; have p0 := _p.1; have p1 := _p.2.1; have q0 := _p.2.2.1; have q1 := _p.2.2.2.1; have hp0 := _p.2.2.2.2; clear _p
            refine wpAnyH_ready (rs := [16]) (by kernel_rfl) (by simp) ?_
            refine AllReadyH.cons (o := _) rfl (fun K hK => ?_) AllReadyH.nil
            go_simp
            have HO2 := Lib.hid (own_setOther (own_setOther HO.out (a := ⟨y3.heap.size, 0, none⟩) (box_own_ne BP.out HO.out (by decide)) (.int .i64 n)) (a := ⟨y3.heap.size, 1, none⟩) (box_own_ne BP.out HO.out (by decide)) (.slice ga gl.length gc))
            have BP2 := Lib.hid (box2_set1 (box2_set0 BP.out (.int .i64 n)) (.slice ga gl.length gc))
            have HB2 := Lib.hid ((HB0.out.setCell (p := ⟨y3.heap.size, 0, none⟩) hPx (.int .i64 n)).setCell (p := ⟨y3.heap.size, 1, none⟩) hPx (.slice ga gl.length gc))
            refine hK.out _ _ trivial (fun hHeld => ?_)
            clear hK K
            try simp only [List.getElem_toArray, List.getElem_cons_zero, List.getElem_cons_succ, Act.put, List.setIfInBounds_toArray, List.set_cons_zero, List.set_cons_succ]
            refine wpAnyH_take (i := 17) (oi := _) (v := ?_) rfl (by kernel_rfl) (by kernel_rfl) (by kernel_rfl) (fun _ _ _ h => h) (Or.inl ⟨by rfl, ?_⟩) (by assumption) ?_
            rotate_left
            focus (intro w hSw; (try dsimp only at hSw); go_simp; try (with_reducible rfl))
            try simp only [List.getElem_toArray, List.getElem_cons_zero, List.getElem_cons_succ, Act.put, List.setIfInBounds_toArray, List.set_cons_zero, List.set_cons_succ]
            refine wpAnyH_done (by kernel_rfl) ?_ _
            refine NoPanic.normal ?_
            go_wp2_with fail
            go_meet
            exact ⟨_, ga, gc, rfl, rfl, HX0.out.trans (HB2.out.mono HX0.out.size), BP2.out, triples_of_owns HO2.out⟩
        · go_simp
          have BP := Lib.hid (box_new y2 #[.int .i64 0, .slice none 0 0] 26)
          have hPx : x0.heap.size ≤ y2.heap.size := HB0.out.size
          replace HB0 := Lib.hid (HB0.out.alloc HB0.out.size (.cells #[.int .i64 0, .slice none 0 0] 26))
          replace HR := Lib.hid (HR.out.alloc (.cells #[.int .i64 0, .slice none 0 0] 26))
          obtain ⟨y8, hy8⟩ : ∃ X, y2.alloc (.cells #[.int .i64 0, .slice none 0 0] 26) = X := ⟨_, rfl⟩
          rw [hy8] at HB0 HR BP ⊢
          clear hy8
          refine hK.out _ _ trivial (fun hHeld => ?_)
          clear hK K
          try simp only [List.getElem_toArray, List.getElem_cons_zero, List.getElem_cons_succ, Act.put, List.setIfInBounds_toArray, List.set_cons_zero, List.set_cons_succ]
          refine wpAnyH_ready (rs := [10]) (by kernel_rfl) (by simp) ?_
          refine AllReadyH.cons (o := _) rfl (fun K hK => ?_) AllReadyH.nil
          refine step_append_rd (by rfl) _ _ _ (by rfl) x0.heap.size 41 i0 _ 3 40 Try.underlying29 HI.out HZ0.out HZ1.out HZ2.out rfl (by omega) (.slice a4 k c4) k ((cellsL db us).take (k * 3)) (by rfl) HR.out A2 (m - (k + 1)) c2 ((cellsL db us).drop ((k + 1) * 3)) (by rfl) (HS2.out.below HB0.out (Nat.le_refl _)) HU2.out (by unfold maxLen; omega) (by omega) HB0.out.size ?_
          intro v4 y9 hown hgrow hloc
          have HBn := Lib.hid (Below.grown HB0.out hgrow HB0.out.size (fun j hj => (HR.out.lt j hj).1))
          replace BP := Lib.hid (BP.out.grown hgrow (fun j hj e => box_own_ne BP.out HR.out (by decide) (by rw [hj, e])))
          clear HB0 HR
          have HB0 := HBn
          clear HBn
          have HL5 : Hid (LsasAt y9 v4 (db.take k ++ db.drop (k + 1))) := Lib.hid (HROW9.out x0.heap.size v4 _ hown (HX0.out.trans (HB0.out.mono HX0.out.size)))
          obtain ⟨a5, c5, rfl⟩ := own_slice hown
          clear hown hgrow hloc
          refine hK.out _ _ trivial (fun hHeld => ?_)
          clear hK K
          try simp only [List.getElem_toArray, List.getElem_cons_zero, List.getElem_cons_succ, Act.put, List.setIfInBounds_toArray, List.set_cons_zero, List.set_cons_succ]
          refine wpAnyH_ready (rs := [11]) (by kernel_rfl) (by simp) ?_
          refine AllReadyH.cons (o := _) rfl (fun K hK => ?_) AllReadyH.nil
          go_simp
          go_at_call 12
          refine ((iDbGraph n (db.take k ++ db.drop (k + 1)) _ _ HL5.out).mono fun _ _ h => dg_at HDL.out h).mono ?_
          rintro e y10 ⟨u5, rfl, hO, hb⟩
          have HO := Lib.hid (hO.mono HB0.out.size (Nat.le_refl _)).1
          obtain ⟨ga, gc, rfl⟩ := own_slice hO.1
          replace BP := Lib.hid (BP.out.below hb BP.out.lt)
          replace HB0 := Lib.hid (HB0.out.trans (hb.mono HB0.out.size))
          clear hb hO HL5
          refine hK.out _ _ trivial (fun hHeld => ?_)
          clear hK K
          try simp only [List.getElem_toArray, List.getElem_cons_zero, List.getElem_cons_succ, Act.put, List.setIfInBounds_toArray, List.set_cons_zero, List.set_cons_succ]
          refine wpAnyH_take (i := 12) (oi := _) (v := ?_) rfl (by kernel_rfl) (by kernel_rfl) (by kernel_rfl) (fun _ _ _ h => h) (Or.inl ⟨by rfl, ?_⟩) (by assumption) ?_
          rotate_left
          focus (intro w hSw; (try dsimp only at hSw); go_simp; try (with_reducible rfl))
          try simp only [List.getElem_toArray, List.getElem_cons_zero, List.getElem_cons_succ, Act.put, List.setIfInBounds_toArray, List.set_cons_zero, List.set_cons_succ]
          refine wpAnyH_take (i := 13) (oi := _) (v := ?_) rfl (by kernel_rfl) (by kernel_rfl) (by kernel_rfl) (fun _ _ _ h => h) (Or.inl ⟨by rfl, ?_⟩) (by assumption) ?_
          rotate_left
          focus (intro w hSw; (try dsimp only at hSw); go_simp; try (with_reducible rfl))
          try simp only [List.getElem_toArray, List.getElem_cons_zero, List.getElem_cons_succ, Act.put, List.setIfInBounds_toArray, List.set_cons_zero, List.set_cons_succ]
          refine wpAnyH_take (i := 14) (oi := _) (v := ?_) rfl (by kernel_rfl) (by kernel_rfl) (by kernel_rfl) (fun _ _ _ h => h) (Or.inl ⟨by rfl, ?_⟩) (by assumption) ?_
          rotate_left
          focus (intro w hSw; (try dsimp only at hSw); go_simp; try (with_reducible rfl))
          try simp only [List.getElem_toArray, List.getElem_cons_zero, List.getElem_cons_succ, Act.put, List.setIfInBounds_toArray, List.set_cons_zero, List.set_cons_succ]
          have _p := box2 BP.out; have p0 := _p.1; have p1 := _p.2.1; have q0 := _p.2.2.1; have q1 := _p.2.2.2.1; have hp0 := _p.2.2.2.2; clear _p
          refine wpAnyH_ready (rs := [16]) (by kernel_rfl) (by simp) ?_
          refine AllReadyH.cons (o := _) rfl (fun K hK => ?_) AllReadyH.nil
          go_simp
          have HO2 := Lib.hid (own_setOther (own_setOther HO.out (a := ⟨y2.heap.size, 0, none⟩) (box_own_ne BP.out HO.out (by decide)) (.int .i64 n)) (a := ⟨y2.heap.size, 1, none⟩) (box_own_ne BP.out HO.out (by decide)) (.slice ga gl.length gc))
          have BP2 := Lib.hid (box2_set1 (box2_set0 BP.out (.int .i64 n)) (.slice ga gl.length gc))
          have HB2 := Lib.hid ((HB0.out.setCell (p := ⟨y2.heap.size, 0, none⟩) hPx (.int .i64 n)).setCell (p := ⟨y2.heap.size, 1, none⟩) hPx (.slice ga gl.length gc))
          refine hK.out _ _ trivial (fun hHeld => ?_)
          clear hK K
          try simp only [List.getElem_toArray, List.getElem_cons_zero, List.getElem_cons_succ, Act.put, List.setIfInBounds_toArray, List.set_cons_zero, List.set_cons_succ]
          refine wpAnyH_take (i := 17) (oi := _) (v := ?_) rfl (by kernel_rfl) (by kernel_rfl) (by kernel_rfl) (fun _ _ _ h => h) (Or.inl ⟨by rfl, ?_⟩) (by assumption) ?_
          rotate_left
          focus (intro w hSw; (try dsimp only at hSw); go_simp; try (with_reducible rfl))
          try simp only [List.getElem_toArray, List.getElem_cons_zero, List.getElem_cons_succ, Act.put, List.setIfInBounds_toArray, List.set_cons_zero, List.set_cons_succ]
          refine wpAnyH_done (by kernel_rfl) ?_ _
          refine NoPanic.normal ?_
          go_wp2_with fail
          go_meet
          exact ⟨_, ga, gc, rfl, rfl, HX0.out.trans (HB2.out.mono HX0.out.size), BP2.out, triples_of_owns HO2.out⟩
      · go_simp
        have BP := Lib.hid (box_new y1 #[.int .i64 0, .slice none 0 0] 26)
        have hPx : x0.heap.size ≤ y1.heap.size := HB0.out.size
        replace HB0 := Lib.hid (HB0.out.alloc HB0.out.size (.cells #[.int .i64 0, .slice none 0 0] 26))
        replace HR := Lib.hid (HR.out.alloc (.cells #[.int .i64 0, .slice none 0 0] 26))
        obtain ⟨y11, hy11⟩ : ∃ X, y1.alloc (.cells #[.int .i64 0, .slice none 0 0] 26) = X := ⟨_, rfl⟩
        rw [hy11] at HB0 HR BP ⊢
        clear hy11
        refine hK.out _ _ trivial (fun hHeld => ?_)
        clear hK K
        try simp only [List.getElem_toArray, List.getElem_cons_zero, List.getElem_cons_succ, Act.put, List.setIfInBounds_toArray, List.set_cons_zero, List.set_cons_succ]
        refine wpAnyH_ready (rs := [5]) (by kernel_rfl) (by simp) ?_
        refine AllReadyH.cons (o := _) rfl (fun K hK => ?_) AllReadyH.nil
        refine step_append_rd (by rfl) _ _ _ (by rfl) x0.heap.size 41 i0 _ 3 40 Try.underlying29 HI.out HZ0.out HZ1.out HZ2.out rfl (by omega) (.slice (some ⟨x0.heap.size, 0, none⟩) 0 0) 0 [] (by rfl) HR.out da k c1 ((cellsL db us).take (k * 3)) (by rfl) (HS1.out.below HB0.out (Nat.le_refl _)) HU1.out (by unfold maxLen; omega) (by omega) HB0.out.size ?_
        intro v4 y12 hown hgrow hloc
        have HBn := Lib.hid (Below.grown HB0.out hgrow HB0.out.size (fun j hj => (HR.out.lt j hj).1))
        replace BP := Lib.hid (BP.out.grown hgrow (fun j hj e => box_own_ne BP.out HR.out (by decide) (by rw [hj, e])))
        clear HB0 HR
        have HB0 := HBn
        clear HBn
        have HR : Hid (y12.ownsRow x0.heap.size 41 3 v4 k ((cellsL db us).take (k * 3))) := Lib.hid (by simpa using hown)
        obtain ⟨a4, c4, rfl⟩ := own_slice HR.out
        clear hown hgrow hloc
        refine hK.out _ _ trivial (fun hHeld => ?_)
        clear hK K
        try simp only [List.getElem_toArray, List.getElem_cons_zero, List.getElem_cons_succ, Act.put, List.setIfInBounds_toArray, List.set_cons_zero, List.set_cons_succ]
        refine wpAnyH_ready (rs := [10]) (by kernel_rfl) (by simp) ?_
        refine AllReadyH.cons (o := _) rfl (fun K hK => ?_) AllReadyH.nil
        refine step_append_rd (by rfl) _ _ _ (by rfl) x0.heap.size 41 i0 _ 3 40 Try.underlying29 HI.out HZ0.out HZ1.out HZ2.out rfl (by omega) (.slice a4 k c4) k ((cellsL db us).take (k * 3)) (by rfl) HR.out A2 (m - (k + 1)) c2 ((cellsL db us).drop ((k + 1) * 3)) (by rfl) (HS2.out.below HB0.out (Nat.le_refl _)) HU2.out (by unfold maxLen; omega) (by omega) HB0.out.size ?_
        intro v4 y13 hown hgrow hloc
        have HBn := Lib.hid (Below.grown HB0.out hgrow HB0.out.size (fun j hj => (HR.out.lt j hj).1))
        replace BP := Lib.hid (BP.out.grown hgrow (fun j hj e => box_own_ne BP.out HR.out (by decide) (by rw [hj, e])))
        clear HB0 HR
        have HB0 := HBn
        clear HBn
        have HL5 : Hid (LsasAt y13 v4 (db.take k ++ db.drop (k + 1))) := Lib.hid (HROW9.out x0.heap.size v4 _ hown (HX0.out.trans (HB0.out.mono HX0.out.size)))
        obtain ⟨a5, c5, rfl⟩ := own_slice hown
        clear hown hgrow hloc
        refine hK.out _ _ trivial (fun hHeld => ?_)
        clear hK K
        try simp only [List.getElem_toArray, List.getElem_cons_zero, List.getElem_cons_succ, Act.put, List.setIfInBounds_toArray, List.set_cons_zero, List.set_cons_succ]
        refine wpAnyH_ready (rs := [11]) (by kernel_rfl) (by simp) ?_
        refine AllReadyH.cons (o := _) rfl (fun K hK => ?_) AllReadyH.nil
        go_simp
        go_at_call 12
        refine ((iDbGraph n (db.take k ++ db.drop (k + 1)) _ _ HL5.out).mono fun _ _ h => dg_at HDL.out h).mono ?_
        rintro e y14 ⟨u5, rfl, hO, hb⟩
        have HO := Lib.hid (hO.mono HB0.out.size (Nat.le_refl _)).1
        obtain ⟨ga, gc, rfl⟩ := own_slice hO.1
        replace BP := Lib.hid (BP.out.below hb BP.out.lt)
        replace HB0 := Lib.hid (HB0.out.trans (hb.mono HB0.out.size))
        clear hb hO HL5
        refine hK.out _ _ trivial (fun hHeld => ?_)
        clear hK K
        try simp only [List.getElem_toArray, List.getElem_cons_zero, List.getElem_cons_succ, Act.put, List.setIfInBounds_toArray, List.set_cons_zero, List.set_cons_succ]
        refine wpAnyH_take (i := 12) (oi := _) (v := ?_) rfl (by kernel_rfl) (by kernel_rfl) (by kernel_rfl) (fun _ _ _ h => h) (Or.inl ⟨by rfl, ?_⟩) (by assumption) ?_
        rotate_left
        focus (intro w hSw; (try dsimp only at hSw); go_simp; try (with_reducible rfl))
        try simp only [List.getElem_toArray, List.getElem_cons_zero, List.getElem_cons_succ, Act.put, List.setIfInBounds_toArray, List.set_cons_zero, List.set_cons_succ]
        refine wpAnyH_take (i := 13) (oi := _) (v := ?_) rfl (by kernel_rfl) (by kernel_rfl) (by kernel_rfl) (fun _ _ _ h => h) (Or.inl ⟨by rfl, ?_⟩) (by assumption) ?_
        rotate_left
        focus (intro w hSw; (try dsimp only at hSw); go_simp; try (with_reducible rfl))
        try simp only [List.getElem_toArray, List.getElem_cons_zero, List.getElem_cons_succ, Act.put, List.setIfInBounds_toArray, List.set_cons_zero, List.set_cons_succ]
        refine wpAnyH_take (i := 14) (oi := _) (v := ?_) rfl (by kernel_rfl) (by kernel_rfl) (by kernel_rfl) (fun _ _ _ h => h) (Or.inl ⟨by rfl, ?_⟩) (by assumption) ?_
        rotate_left
        focus (intro w hSw; (try dsimp only at hSw); go_simp; try (with_reducible rfl))
        try simp only [List.getElem_toArray, List.getElem_cons_zero, List.getElem_cons_succ, Act.put, List.setIfInBounds_toArray, List.set_cons_zero, List.set_cons_succ]
        have _p := box2 BP.out; have p0 := _p.1; have p1 := _p.2.1; have q0 := _p.2.2.1; have q1 := _p.2.2.2.1; have hp0 := _p.2.2.2.2; clear _p
        refine wpAnyH_ready (rs := [16]) (by kernel_rfl) (by simp) ?_
        refine AllReadyH.cons (o := _) rfl (fun K hK => ?_) AllReadyH.nil
        go_simp
        have HO2 := Lib.hid (own_setOther (own_setOther HO.out (a := ⟨y1.heap.size, 0, none⟩) (box_own_ne BP.out HO.out (by decide)) (.int .i64 n)) (a := ⟨y1.heap.size, 1, none⟩) (box_own_ne BP.out HO.out (by decide)) (.slice ga gl.length gc))
        have BP2 := Lib.hid (box2_set1 (box2_set0 BP.out (.int .i64 n)) (.slice ga gl.length gc))
        have HB2 := Lib.hid ((HB0.out.setCell (p := ⟨y1.heap.size, 0, none⟩) hPx (.int .i64 n)).setCell (p := ⟨y1.heap.size, 1, none⟩) hPx (.slice ga gl.length gc))
        refine hK.out _ _ trivial (fun hHeld => ?_)
        clear hK K
        try simp only [List.getElem_toArray, List.getElem_cons_zero, List.getElem_cons_succ, Act.put, List.setIfInBounds_toArray, List.set_cons_zero, List.set_cons_succ]
        refine wpAnyH_take (i := 17) (oi := _) (v := ?_) rfl (by kernel_rfl) (by kernel_rfl) (by kernel_rfl) (fun _ _ _ h => h) (Or.inl ⟨by rfl, ?_⟩) (by assumption) ?_
        rotate_left
        focus (intro w hSw; (try dsimp only at hSw); go_simp; try (with_reducible rfl))
        try simp only [List.getElem_toArray, List.getElem_cons_zero, List.getElem_cons_succ, Act.put, List.setIfInBounds_toArray, List.set_cons_zero, List.set_cons_succ]
        refine wpAnyH_done (by kernel_rfl) ?_ _
        refine NoPanic.normal ?_
        go_wp2_with fail
        go_meet
        exact ⟨_, ga, gc, rfl, rfl, HX0.out.trans (HB2.out.mono HX0.out.size), BP2.out, triples_of_owns HO2.out⟩
    · go_simp
      have BP := Lib.hid (box_new x0 #[.int .i64 0, .slice none 0 0] 26)
      have hPx : x0.heap.size ≤ x0.heap.size := HB0.out.size
      replace HB0 := Lib.hid (HB0.out.alloc HB0.out.size (.cells #[.int .i64 0, .slice none 0 0] 26))
      obtain ⟨y15, hy15⟩ : ∃ X, x0.alloc (.cells #[.int .i64 0, .slice none 0 0] 26) = X := ⟨_, rfl⟩
      rw [hy15] at HB0 BP ⊢
      clear hy15
      refine hK.out _ _ trivial (fun hHeld => ?_)
      clear hK K
      try simp only [List.getElem_toArray, List.getElem_cons_zero, List.getElem_cons_succ, Act.put, List.setIfInBounds_toArray, List.set_cons_zero, List.set_cons_succ]
      refine wpAnyH_ready (rs := [1]) (by kernel_rfl) (by simp) ?_
      refine AllReadyH.cons (o := _) rfl (fun K hK => ?_) AllReadyH.nil
      go_simp
      have HR : Hid ((y15.alloc (.cells #[] 41)).ownsRow x0.heap.size 41 3 (.slice (some ⟨y15.heap.size, 0, none⟩) 0 0) 0 []) := Lib.hid (own_new rfl HB0.out.size)
      replace HB0 := Lib.hid (HB0.out.alloc HB0.out.size (.cells #[] 41))
      replace BP := Lib.hid (BP.out.alloc (.cells #[] 41))
      obtain ⟨y16, hy16⟩ : ∃ X, y15.alloc (.cells #[] 41) = X := ⟨_, rfl⟩
      rw [hy16] at HB0 HR BP ⊢
      clear hy16
      refine hK.out _ _ trivial (fun hHeld => ?_)
      clear hK K
      try simp only [List.getElem_toArray, List.getElem_cons_zero, List.getElem_cons_succ, Act.put, List.setIfInBounds_toArray, List.set_cons_zero, List.set_cons_succ]
      refine wpAnyH_ready (rs := [5]) (by kernel_rfl) (by simp) ?_
      refine AllReadyH.cons (o := _) rfl (fun K hK => ?_) AllReadyH.nil
      refine step_append_rd (by rfl) _ _ _ (by rfl) x0.heap.size 41 i0 _ 3 40 Try.underlying29 HI.out HZ0.out HZ1.out HZ2.out rfl (by omega) (.slice (some ⟨y15.heap.size, 0, none⟩) 0 0) 0 [] (by rfl) HR.out da k c1 ((cellsL db us).take (k * 3)) (by rfl) (HS1.out.below HB0.out (Nat.le_refl _)) HU1.out (by unfold maxLen; omega) (by omega) HB0.out.size ?_
      intro v4 y17 hown hgrow hloc
      have HBn := Lib.hid (Below.grown HB0.out hgrow HB0.out.size (fun j hj => (HR.out.lt j hj).1))
      replace BP := Lib.hid (BP.out.grown hgrow (fun j hj e => box_own_ne BP.out HR.out (by decide) (by rw [hj, e])))
      clear HB0 HR
      have HB0 := HBn
      clear HBn
      have HR : Hid (y17.ownsRow x0.heap.size 41 3 v4 k ((cellsL db us).take (k * 3))) := Lib.hid (by simpa using hown)
      obtain ⟨a4, c4, rfl⟩ := own_slice HR.out
      clear hown hgrow hloc
      refine hK.out _ _ trivial (fun hHeld => ?_)
      clear hK K
      try simp only [List.getElem_toArray, List.getElem_cons_zero, List.getElem_cons_succ, Act.put, List.setIfInBounds_toArray, List.set_cons_zero, List.set_cons_succ]
      refine wpAnyH_ready (rs := [10]) (by kernel_rfl) (by simp) ?_
      refine AllReadyH.cons (o := _) rfl (fun K hK => ?_) AllReadyH.nil
      refine step_append_rd (by rfl) _ _ _ (by rfl) x0.heap.size 41 i0 _ 3 40 Try.underlying29 HI.out HZ0.out HZ1.out HZ2.out rfl (by omega) (.slice a4 k c4) k ((cellsL db us).take (k * 3)) (by rfl) HR.out A2 (m - (k + 1)) c2 ((cellsL db us).drop ((k + 1) * 3)) (by rfl) (HS2.out.below HB0.out (Nat.le_refl _)) HU2.out (by unfold maxLen; omega) (by omega) HB0.out.size ?_
      intro v4 y18 hown hgrow hloc
      have HBn := Lib.hid (Below.grown HB0.out hgrow HB0.out.size (fun j hj => (HR.out.lt j hj).1))
      replace BP := Lib.hid (BP.out.grown hgrow (fun j hj e => box_own_ne BP.out HR.out (by decide) (by rw [hj, e])))
      clear HB0 HR
      have HB0 := HBn
      clear HBn
      have HL5 : Hid (LsasAt y18 v4 (db.take k ++ db.drop (k + 1))) := Lib.hid (HROW9.out x0.heap.size v4 _ hown (HX0.out.trans (HB0.out.mono HX0.out.size)))
      obtain ⟨a5, c5, rfl⟩ := own_slice hown
      clear hown hgrow hloc
      refine hK.out _ _ trivial (fun hHeld => ?_)
      clear hK K
      try simp only [List.getElem_toArray, List.getElem_cons_zero, List.getElem_cons_succ, Act.put, List.setIfInBounds_toArray, List.set_cons_zero, List.set_cons_succ]
      refine wpAnyH_ready (rs := [11]) (by kernel_rfl) (by simp) ?_
      refine AllReadyH.cons (o := _) rfl (fun K hK => ?_) AllReadyH.nil
      go_simp
      go_at_call 12
      refine ((iDbGraph n (db.take k ++ db.drop (k + 1)) _ _ HL5.out).mono fun _ _ h => dg_at HDL.out h).mono ?_
      rintro e y19 ⟨u5, rfl, hO, hb⟩
      have HO := Lib.hid (hO.mono HB0.out.size (Nat.le_refl _)).1
      obtain ⟨ga, gc, rfl⟩ := own_slice hO.1
      replace BP := Lib.hid (BP.out.below hb BP.out.lt)
      replace HB0 := Lib.hid (HB0.out.trans (hb.mono HB0.out.size))
      clear hb hO HL5
      refine hK.out _ _ trivial (fun hHeld => ?_)
      clear hK K
      try simp only [List.getElem_toArray, List.getElem_cons_zero, List.getElem_cons_succ, Act.put, List.setIfInBounds_toArray, List.set_cons_zero, List.set_cons_succ]
      refine wpAnyH_take (i := 12) (oi := _) (v := ?_) rfl (by kernel_rfl) (by kernel_rfl) (by kernel_rfl) (fun _ _ _ h => h) (Or.inl ⟨by rfl, ?_⟩) (by assumption) ?_
      rotate_left
      focus (intro w hSw; (try dsimp only at hSw); go_simp; try (with_reducible rfl))
      try simp only [List.getElem_toArray, List.getElem_cons_zero, List.getElem_cons_succ, Act.put, List.setIfInBounds_toArray, List.set_cons_zero, List.set_cons_succ]
      refine wpAnyH_take (i := 13) (oi := _) (v := ?_) rfl (by kernel_rfl) (by kernel_rfl) (by kernel_rfl) (fun _ _ _ h => h) (Or.inl ⟨by rfl, ?_⟩) (by assumption) ?_
      rotate_left
      focus (intro w hSw; (try dsimp only at hSw); go_simp; try (with_reducible rfl))
      try simp only [List.getElem_toArray, List.getElem_cons_zero, List.getElem_cons_succ, Act.put, List.setIfInBounds_toArray, List.set_cons_zero, List.set_cons_succ]
      refine wpAnyH_take (i := 14) (oi := _) (v := ?_) rfl (by kernel_rfl) (by kernel_rfl) (by kernel_rfl) (fun _ _ _ h => h) (Or.inl ⟨by rfl, ?_⟩) (by assumption) ?_
      rotate_left
      focus (intro w hSw; (try dsimp only at hSw); go_simp; try (with_reducible rfl))
      try simp only [List.getElem_toArray, List.getElem_cons_zero, List.getElem_cons_succ, Act.put, List.setIfInBounds_toArray, List.set_cons_zero, List.set_cons_succ]
      have _p := box2 BP.out; have p0 := _p.1; have p1 := _p.2.1; have q0 := _p.2.2.1; have q1 := _p.2.2.2.1; have hp0 := _p.2.2.2.2; clear _p
      refine wpAnyH_ready (rs := [16]) (by kernel_rfl) (by simp) ?_
      refine AllReadyH.cons (o := _) rfl (fun K hK => ?_) AllReadyH.nil
      go_simp
      have HO2 := Lib.hid (own_setOther (own_setOther HO.out (a := ⟨x0.heap.size, 0, none⟩) (box_own_ne BP.out HO.out (by decide)) (.int .i64 n)) (a := ⟨x0.heap.size, 1, none⟩) (box_own_ne BP.out HO.out (by decide)) (.slice ga gl.length gc))
      have BP2 := Lib.hid (box2_set1 (box2_set0 BP.out (.int .i64 n)) (.slice ga gl.length gc))
      have HB2 := Lib.hid ((HB0.out.setCell (p := ⟨x0.heap.size, 0, none⟩) hPx (.int .i64 n)).setCell (p := ⟨x0.heap.size, 1, none⟩) hPx (.slice ga gl.length gc))
      refine hK.out _ _ trivial (fun hHeld => ?_)
      clear hK K
      try simp only [List.getElem_toArray, List.getElem_cons_zero, List.getElem_cons_succ, Act.put, List.setIfInBounds_toArray, List.set_cons_zero, List.set_cons_succ]
      refine wpAnyH_take (i := 17) (oi := _) (v := ?_) rfl (by kernel_rfl) (by kernel_rfl) (by kernel_rfl) (fun _ _ _ h => h) (Or.inl ⟨by rfl, ?_⟩) (by assumption) ?_
      rotate_left
      focus (intro w hSw; (try dsimp only at hSw); go_simp; try (with_reducible rfl))
      try simp only [List.getElem_toArray, List.getElem_cons_zero, List.getElem_cons_succ, Act.put, List.setIfInBounds_toArray, List.set_cons_zero, List.set_cons_succ]
      refine wpAnyH_done (by kernel_rfl) ?_ _
      refine NoPanic.normal ?_
      go_wp2_with fail
      go_meet
      exact ⟨_, ga, gc, rfl, rfl, HX0.out.trans (HB2.out.mono HX0.out.size), BP2.out, triples_of_owns HO2.out⟩
  case rest =>
    obtain ⟨P, ga, gc, rfl, rfl, hb, hBP, hT⟩ := hcut
    replace HST := Lib.hid (HST.out.below hb)
    have HBX := Lib.hid hBP
    have HTX := Lib.hid hT
    obtain ⟨W10, hW10⟩ : ∃ X, X = wc := ⟨_, rfl⟩
    subst hW10
    clear hb hBP hT HS1 HS2 HU1 HU2 HROW9 hs1 hs2
    have hor : ∃ lb lo, da = some ⟨lb, lo, none⟩ ∧ W10.cell? ⟨lb, lo + k * 3, none⟩ = some (.int .i64 d.1) := by
      have h := HST.out.lsa
      rw [HM.out] at h
      exact lsasOrigin h HDD.out
    obtain ⟨lb, lo, rfl, r0⟩ := hor
    obtain ⟨p0, p1, q0, q1, hp0⟩ := box2 HBX.out
    have hkI : (k:Int) < (m:Int) := by omega
    go_wp2_with fail
    refine wp_region_noPanic ?_
    refine wp_region_held_drew (S := (fun w' => w'.cell? ⟨P, 0, none⟩ = some (.int .i64 n) ∧ w'.cell? ⟨P, 1, none⟩ = some (.slice ga gl.length gc) ∧ w'.cell? ⟨lb, lo + k * 3, none⟩ = some (.int .i64 d.1))) (by kernel_rfl) (by ((try dsimp only); (first | go_keep | exact ⟨p0, p1, r0⟩))) (fun hHeld => ?_)
    obtain ⟨x8, hx8⟩ : ∃ W, W10.drew = W := ⟨_, rfl⟩
    replace HST := Lib.hid (HST.out.below (Below.refl _ _).drew)
    replace HBX := Lib.hid HBX.out.drew
    have HT9 : Hid (TriplesAt W10.drew (.slice ga gl.length gc) gl) := HTX
    have r0x : W10.drew.cell? ⟨lb, lo + k * 3, none⟩ = some (.int .i64 d.1) := r0
    rw [hx8] at HST HBX HT9 r0x hHeld ⊢
    clear hx8 r0 p0 p1 q0 q1 hp0
    have r0 := r0x
    clear r0x
    obtain ⟨p0, p1, q0, q1, hp0⟩ := box2 HBX.out
    refine wpAnyH_take (i := 0) (oi := _) (v := ?_) rfl (by kernel_rfl) (by kernel_rfl) (by kernel_rfl) (fun _ _ _ h => h) (Or.inl ⟨by rfl, ?_⟩) (by assumption) ?_
    rotate_left
    focus (intro w hSw; (try dsimp only at hSw); go_simp; try (with_reducible rfl))
    try simp only [List.getElem_toArray, List.getElem_cons_zero, List.getElem_cons_succ, Act.put, List.setIfInBounds_toArray, List.set_cons_zero, List.set_cons_succ]
    refine wpAnyH_take (i := 1) (oi := _) (v := ?_) rfl (by kernel_rfl) (by kernel_rfl) (by kernel_rfl) (fun _ _ _ h => h) (Or.inl ⟨by rfl, ?_⟩) (by assumption) ?_
    rotate_left
    focus (intro w hSw; (try dsimp only at hSw); go_simp; try (with_reducible rfl))
    try simp only [List.getElem_toArray, List.getElem_cons_zero, List.getElem_cons_succ, Act.put, List.setIfInBounds_toArray, List.set_cons_zero, List.set_cons_succ]
    refine wpAnyH_take (i := 2) (oi := _) (v := ?_) rfl (by kernel_rfl) (by kernel_rfl) (by kernel_rfl) (fun _ _ _ h => h) (Or.inl ⟨by rfl, ?_⟩) (by assumption) ?_
    rotate_left
    focus (intro w hSw; (try dsimp only at hSw); go_simp; try (with_reducible rfl))
    try simp only [List.getElem_toArray, List.getElem_cons_zero, List.getElem_cons_succ, Act.put, List.setIfInBounds_toArray, List.set_cons_zero, List.set_cons_succ]
    refine wpAnyH_take (i := 3) (oi := _) (v := ?_) rfl (by kernel_rfl) (by kernel_rfl) (by kernel_rfl) (fun _ _ _ h => h) (Or.inl ⟨by rfl, ?_⟩) (by assumption) ?_
    rotate_left
    focus (intro w hSw; (try dsimp only at hSw); go_simp; try (with_reducible rfl))
    try simp only [List.getElem_toArray, List.getElem_cons_zero, List.getElem_cons_succ, Act.put, List.setIfInBounds_toArray, List.set_cons_zero, List.set_cons_succ]
    refine wpAnyH_take (i := 4) (oi := _) (v := ?_) rfl (by kernel_rfl) (by kernel_rfl) (by kernel_rfl) (fun _ _ _ h => h) (Or.inl ⟨by rfl, ?_⟩) (by assumption) ?_
    rotate_left
    focus (intro w hSw; (try dsimp only at hSw); go_simp; try (with_reducible rfl))
    try simp only [List.getElem_toArray, List.getElem_cons_zero, List.getElem_cons_succ, Act.put, List.setIfInBounds_toArray, List.set_cons_zero, List.set_cons_succ]
    refine wpAnyH_take (i := 5) (oi := _) (v := ?_) rfl (by kernel_rfl) (by kernel_rfl) (by kernel_rfl) (fun _ _ _ h => h) (Or.inl ⟨by rfl, ?_⟩) (by assumption) ?_
    rotate_left
    focus (intro w hSw; (try dsimp only at hSw); go_simp; try (with_reducible rfl))
    try simp only [List.getElem_toArray, List.getElem_cons_zero, List.getElem_cons_succ, Act.put, List.setIfInBounds_toArray, List.set_cons_zero, List.set_cons_succ]
    refine wpAnyH_take (i := 6) (oi := _) (v := ?_) rfl (by kernel_rfl) (by kernel_rfl) (by kernel_rfl) (fun _ _ _ h => h) (Or.inl ⟨by rfl, ?_⟩) (by assumption) ?_
    rotate_left
    focus (intro w hSw; (try dsimp only at hSw); go_simp; try (with_reducible rfl))
    try simp only [List.getElem_toArray, List.getElem_cons_zero, List.getElem_cons_succ, Act.put, List.setIfInBounds_toArray, List.set_cons_zero, List.set_cons_succ]
    refine wpAnyH_take (i := 7) (oi := _) (v := ?_) rfl (by kernel_rfl) (by kernel_rfl) (by kernel_rfl) (fun _ _ _ h => h) (Or.inl ⟨by rfl, ?_⟩) (by assumption) ?_
    rotate_left
    focus (intro w hSw; (try dsimp only at hSw); go_simp; try (with_reducible rfl))
    try simp only [List.getElem_toArray, List.getElem_cons_zero, List.getElem_cons_succ, Act.put, List.setIfInBounds_toArray, List.set_cons_zero, List.set_cons_succ]
    refine wpAnyH_ready (rs := [8]) (by kernel_rfl) (by simp) ?_
    refine AllReadyH.cons (o := _) rfl (fun K hK => ?_) AllReadyH.nil
    go_simp
    go_at_call 26
    refine ((iGNb n gl d.1 _ _ HT9.out).mono fun _ _ h => (by rw [HNB.out] at h; exact madeNil h)).mono ?_
    rintro e x9 ⟨na, nc, rfl, hb⟩
    replace HST := Lib.hid (HST.out.below hb)
    replace p0 := cell_below hb p0 (cell_lt p0)
    replace p1 := cell_below hb p1 (cell_lt p1)
    replace r0 := cell_below hb r0 (cell_lt r0)
    clear hb q0 q1 hp0
    refine hK.out _ _ (by ((try dsimp only); (first | go_keep | exact ⟨p0, p1, r0⟩))) (fun hHeld => ?_)
    clear hK K
    try simp only [List.getElem_toArray, List.getElem_cons_zero, List.getElem_cons_succ, Act.put, List.setIfInBounds_toArray, List.set_cons_zero, List.set_cons_succ]
    refine wpAnyH_take (i := 9) (oi := _) (v := ?_) rfl (by kernel_rfl) (by kernel_rfl) (by kernel_rfl) (fun _ _ _ h => h) (Or.inl ⟨by rfl, ?_⟩) (by assumption) ?_
    rotate_left
    focus (intro w hSw; (try dsimp only at hSw); go_simp; try (with_reducible rfl))
    try simp only [List.getElem_toArray, List.getElem_cons_zero, List.getElem_cons_succ, Act.put, List.setIfInBounds_toArray, List.set_cons_zero, List.set_cons_succ]
    refine wpAnyH_take (i := 10) (oi := _) (v := ?_) rfl (by kernel_rfl) (by kernel_rfl) (by kernel_rfl) (fun _ _ _ h => h) (Or.inl ⟨by rfl, ?_⟩) (by assumption) ?_
    rotate_left
    focus (intro w hSw; (try dsimp only at hSw); go_simp; try (with_reducible rfl))
    try simp only [List.getElem_toArray, List.getElem_cons_zero, List.getElem_cons_succ, Act.put, List.setIfInBounds_toArray, List.set_cons_zero, List.set_cons_succ]
    refine wpAnyH_take (i := 11) (oi := _) (v := ?_) rfl (by kernel_rfl) (by kernel_rfl) (by kernel_rfl) (fun _ _ _ h => h) (Or.inl ⟨by rfl, ?_⟩) (by assumption) ?_
    rotate_left
    focus (intro w hSw; (try dsimp only at hSw); go_simp; try (with_reducible rfl))
    try simp only [List.getElem_toArray, List.getElem_cons_zero, List.getElem_cons_succ, Act.put, List.setIfInBounds_toArray, List.set_cons_zero, List.set_cons_succ]
    refine wpAnyH_take (i := 12) (oi := _) (v := ?_) rfl (by kernel_rfl) (by kernel_rfl) (by kernel_rfl) (fun _ _ _ h => h) (Or.inl ⟨by rfl, ?_⟩) (by assumption) ?_
    rotate_left
    focus (intro w hSw; (try dsimp only at hSw); go_simp; try (with_reducible rfl))
    try simp only [List.getElem_toArray, List.getElem_cons_zero, List.getElem_cons_succ, Act.put, List.setIfInBounds_toArray, List.set_cons_zero, List.set_cons_succ]
    refine wpAnyH_done (by kernel_rfl) ?_ _
    refine NoPanic.normal ?_
    go_wp2_with fail
    go_ret
    exact ⟨rfl, HST.out.bw⟩
theorem own : ownKnob Try.prog.godebug = none := by kernel_rfl
theorem laidOut : laidOutB Try.prog = true := by kernel_rfl
set_option maxRecDepth 100000 in
theorem lifted (os : Os) (started : os.Started) (H : Type) (enc : TypeId × Value → H) :
    ReturnsInHanded {} Try.checked os 7 .any (Rows.fnDbGraphLessSpec.pre6 enc Try.prog Try.f7 Rows.fnDbGraphLessRow.domain false) (Rows.fnDbGraphLessSpec.post enc Try.prog Try.f7 false true false false) := by
  refine returnsInHanded_of_change (C := Try.checked) own started (by kernel_rfl) Try.func7
    (ChangeSpec.witness6 (enc := enc) (C := Try.checked) false ⟨#[], #[.slice none 0 0, .slice none 0 0], []⟩ 8 (by kernel_rfl) (by kernel_rfl) (by kernel_rfl) (by kernel_rfl)) ?_
  intro W base args ds gs before hval0 hW hcnd _
  have hval : ∀ (j : Nat) t v, Try.f7.params[j]? = some t → args[j]? = some v → Value.okWide Try.prog W .any base t v := hval0
  have hW' := hW
  obtain ⟨p, q, hA0, hV, rfl, hfz, hnd⟩ := hW
  have hA : DataW.TrodAll enc Try.prog W 0 (fun _ => true) true Try.f7.params.toList args.toList ds p := hA0
  rw [Try.params7] at hA hval
  obtain ⟨v0, vs0, d0, ds0, p0, q0, hargs, rfl, rfl, h0, r0⟩ := trodAll_cons hA
  obtain ⟨v1, vs1, d1, ds1, p1, q1, rfl, rfl, rfl, h1, r1⟩ := trodAll_cons r0
  obtain ⟨rfl, rfl, rfl⟩ := trodAll_nil r1
  obtain rfl : args = #[v0, v1] := by cases args; simp_all
  obtain ⟨rfl, rfl⟩ := trodVars_none hV
  have k0 := h0
  have lt0 : ∀ x ∈ p0, x.block < W.heap.size := by obtain ⟨m, hm⟩ := k0; exact DataW.trod_lt m _ _ _ hm
  have w0 : CodeAt W v0 := codeAt_of_trod (T := 36) (E := 5) Try.underlying36 Try.underlying5 (by kernel_rfl) (hval 0 36 v0 rfl rfl) h0
  have k1 := h1
  have lt1 : ∀ x ∈ p1, x.block < W.heap.size := by obtain ⟨m, hm⟩ := k1; exact DataW.trod_lt m _ _ _ hm
  have w1 : CodeAt W v1 := codeAt_of_trod (T := 36) (E := 5) Try.underlying36 Try.underlying5 (by kernel_rfl) (hval 1 36 v1 rfl rfl) h1
  clear hA0 hval0
  refine (walk v0 v1 W w0 w1).mono fun e W' ⟨he, bel⟩ => ?_
  subst he
  exact ⟨_, rfl, _, _, _, [], _, [], hW', trodAll_mk1 (shut_bool Try.underlying4 _), (trodAll_cons_mk (Below.trod laidOut (by kernel_rfl) (of_decide_eq_true (by kernel_rfl)) k0 bel lt0) (trodAll_cons_mk (Below.trod laidOut (by kernel_rfl) (of_decide_eq_true (by kernel_rfl)) k1 bel lt1) trodAll_mk0)), rfl, bel.frame _, fun h => by cases h⟩
theorem over : Rows.fnDbGraphLessRow.holds Try.pinned (OpenSpec.ofChange Rows.fnDbGraphLessSpec) :=
  OpenClaim.holds_of_wide 7 Try.f7 rfl rfl rfl rfl rfl rfl rfl ⟨rfl, rfl, rfl, rfl, rfl⟩ rfl rfl rfl rfl rfl (by kernel_rfl) Try.func7 (by kernel_rfl)
    (of_decide_eq_true (by kernel_rfl)) (by unfold Func.isWrapper; first | (rw [if_pos (by decide +kernel)]; kernel_rfl) | (rw [if_neg (by decide +kernel)]; exact ⟨rfl, rfl⟩))
    (fun os started H enc _ => lifted os started H enc)
end Go.Proofs.Ytnnkdoomjkccgaa.lawFnDbGraphLess
namespace Go.Proofs.Ytnnkdoomjkccgaa
set_option linter.unusedSimpArgs false
set_option linter.unusedVariables false
/-- The statement. -/
theorem FnDbGraphLess_proved : Rows.FnDbGraphLessSaid := lawFnDbGraphLess.over
#print axioms FnDbGraphLess_proved
end Go.Proofs.Ytnnkdoomjkccgaa
