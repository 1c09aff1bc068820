/- Where a label leads: other and use of the program, l4Step of the reference: hopTo. · Where a label leads: l4Step of the reference: hopTo. -/
import Derived.Test.YtoebefpmfgkpoaaSDist
import Derived.Test.YtoebefpmfgkpoaaNodes
import Derived.Test.YtoebefpmfgkpoaaGrAll
import Derived.Deep.RegionHeld3
namespace Go.Proofs.Ytoebefpmfgkpoaa
set_option linter.unusedSimpArgs false
set_option linter.unusedVariables false
open Go.RowKit

theorem iOther (x y z a : Int) (w : World) : Calls Try.prog 89 #[.agg #[.int .i64 x, .int .i64 y, .int .i64 z], .int .i64 a] w fun e w' =>
    e = .returned (.tuple #[.int .i64 ((otherEnd (x, y, z) a).getD 0), .bool (otherEnd (x, y, z) a).isSome]) ∧ Below w.heap.size w w' := by
  by_cases h1 : a = x
  · subst h1
    have e : otherEnd (a, y, z) a = some y := by unfold otherEnd; rw [if_pos rfl]
    rw [e]
    have b1 : (a == a) = true := by simp
    go_enter Try.func89, Try.ntmps89
    go_wp2_with fail
    go_ret2
    exact ⟨rfl, (by with_reducible (repeat (first | (refine below_drewN ?_ _) | (refine Below.drew ?_) | (refine below_alloc ?_ (by first | omega | (simp; done) | (simp; omega)) _) | (refine Below.setCell ?_ (by first | omega | (simp; done) | (simp; omega)) _) | exact Below.refl _ _ | assumption | (refine below_call ?_ (by first | omega | (simp; done) | (simp; omega)) (by assumption)))))⟩
  · have b1 : (a == x) = false := by simpa using h1
    by_cases h2 : a = y
    · subst h2
      have e : otherEnd (x, a, z) a = some x := by unfold otherEnd; rw [if_neg h1, if_pos rfl]
      rw [e]
      have b2 : (a == a) = true := by simp
      go_enter Try.func89, Try.ntmps89
      go_wp2_with fail
      go_ret2
      exact ⟨rfl, (by with_reducible (repeat (first | (refine below_drewN ?_ _) | (refine Below.drew ?_) | (refine below_alloc ?_ (by first | omega | (simp; done) | (simp; omega)) _) | (refine Below.setCell ?_ (by first | omega | (simp; done) | (simp; omega)) _) | exact Below.refl _ _ | assumption | (refine below_call ?_ (by first | omega | (simp; done) | (simp; omega)) (by assumption)))))⟩
    · have b2 : (a == y) = false := by simpa using h2
      have e : otherEnd (x, y, z) a = none := by unfold otherEnd; rw [if_neg h1, if_neg h2]
      rw [e]
      go_enter Try.func89, Try.ntmps89
      go_wp2_with fail
      go_ret2
      exact ⟨rfl, (by with_reducible (repeat (first | (refine below_drewN ?_ _) | (refine Below.drew ?_) | (refine below_alloc ?_ (by first | omega | (simp; done) | (simp; omega)) _) | (refine Below.setCell ?_ (by first | omega | (simp; done) | (simp; omega)) _) | exact Below.refl _ _ | assumption | (refine below_call ?_ (by first | omega | (simp; done) | (simp; omega)) (by assumption)))))⟩
def HopPost (w : World) (n : Int) (ls : List LinkD) (a : Int) (l : LabelD) (V : Int) (e : Ending) (w' : World) : Prop :=
  e = .returned (.tuple #[.int .i64 V, .bool (hopTo n ls a l).isSome]) ∧ Below w.heap.size w w'
def useV (n : Int) (ls : List LinkD) (a : Int) (l : LabelD) : Int := if l.1 = 1 then l.2 else (hopTo n ls a l).getD 0
def stepV (n : Int) (ls : List LinkD) (a : Int) (l : LabelD) : Int := (hopTo n ls a l).getD 0
theorem hop_1 {n : Int} {ls : List LinkD} {a v : Int} (h : inB v 0 (n - 1) = true) (h2 : 0 ≤ distG n ls a v) : hopTo n ls a (1, v) = some v := by unfold hopTo; simp only [if_true]; rw [if_pos (by simp [h, h2])]
theorem hop_1no {n : Int} {ls : List LinkD} {a v : Int} (h : inB v 0 (n - 1) = false) : hopTo n ls a (1, v) = none := by unfold hopTo; simp only [if_true]; rw [if_neg (by simp [h])]
theorem hop_1far {n : Int} {ls : List LinkD} {a v : Int} (h : distG n ls a v < 0) : hopTo n ls a (1, v) = none := by unfold hopTo; simp only [if_true]; rw [if_neg (by simp; omega)]
theorem hop_2 {n : Int} {ls : List LinkD} {a : Int} {j : Nat} {l : LinkD} (h : ls[j]? = some l) : hopTo n ls a (2, (j:Int)) = otherEnd l a := by
  unfold hopTo; simp only [if_neg (show ¬ ((2:Int) = 1) by omega), if_true, Int.toNat_natCast]; rw [if_pos (by omega), h]
theorem hop_2no {n : Int} {ls : List LinkD} {a v : Int} (h : inB v 0 (ls.length - 1) = false) : hopTo n ls a (2, v) = none := by
  have h' : ¬ (0 ≤ v ∧ v ≤ (ls.length:Int) - 1) := fun e => by rw [inB_iff.2 e] at h; cases h
  unfold hopTo; simp only [if_neg (show ¬ ((2:Int) = 1) by omega), if_true]
  by_cases e : 0 ≤ v
  · rw [if_pos e, List.getElem?_eq_none (by omega)]
  · rw [if_neg e]
theorem hop_3 {n : Int} {ls : List LinkD} {a k v : Int} (h1 : k ≠ 1) (h2 : k ≠ 2) : hopTo n ls a (k, v) = none := by unfold hopTo; simp only [if_neg h1, if_neg h2]
set_option maxRecDepth 100000 in
set_option maxHeartbeats 4000000 in
theorem iUse (n : Int) (ls : List LinkD) (at_ k x : Int) (v : Value) (w : World) (hv : TriplesAt w v ls) (h : GOk n ls) (ha : nd n.toNat at_) :
    Calls Try.prog 75 #[.agg #[.int .i64 n, v], .int .i64 at_, .agg #[.int .i64 k, .int .i64 x]] w (HopPost w n ls at_ (k, x) (useV n ls at_ (k, x))) := by
  have HV := Lib.hid hv
  obtain ⟨va, vcap, vb, voff, rfl, hvcap, hvmax, hva, hvc⟩ := hv
  obtain ⟨vm, hvm⟩ : ∃ m, m = ls.length := ⟨_, rfl⟩
  rw [← hvm] at hvcap hva HV ⊢
  have HVM := Lib.hid hvm; have HVC := Lib.hid hvc; have HVA := Lib.hid hva
  have hvl : vm ≤ 14 := by have := h.len; omega
  clear hvm hvc hva
  have HG := Lib.hid h; have HA := Lib.hid ha
  have hn1 := h.n1
  have hn8 := h.n8
  clear h ha
  by_cases h3 : k ≠ 1 ∧ k ≠ 2
  · obtain ⟨h1, h2⟩ := h3
    have b1 : (k == 1) = false := by simpa using h1
    have b2 : (k == 2) = false := by simpa using h2
    go_enter Try.func75, Try.ntmps75
    go_wp2_with fail
    go_ret2
    exact ⟨by rw [useV, hop_3 h1 h2, if_neg h1]; rfl, (by with_reducible (repeat (first | (refine below_drewN ?_ _) | (refine Below.drew ?_) | (refine below_alloc ?_ (by first | omega | (simp; done) | (simp; omega)) _) | (refine Below.setCell ?_ (by first | omega | (simp; done) | (simp; omega)) _) | exact Below.refl _ _ | assumption | (refine below_call ?_ (by first | omega | (simp; done) | (simp; omega)) (by assumption)))))⟩
  have hw : IntKind.i64.wrap (n - 1) = n - 1 := IntWalk.i64_in _ (by omega)
  have hw2 : IntKind.i64.wrap ((vm:Int) - 1) = (vm:Int) - 1 := IntWalk.i64_in _ (by omega)
  by_cases h1 : k = 1
  · subst h1
    have b1 : ((1:Int) == 1) = true := by simp
    go_enter Try.func75, Try.ntmps75
    go_wp2_with fail
    have A0 := (box_new w #[.int .i64 n, .slice va vm vcap] 25).alloc (.cells #[.int .i64 1, .int .i64 x] 56)
    have C0 := box_new (w.alloc (.cells #[.int .i64 n, .slice va vm vcap] 25)) #[.int .i64 1, .int .i64 x] 56
    have BW0 : Below w.heap.size w ((w.alloc (.cells #[.int .i64 n, .slice va vm vcap] 25)).alloc (.cells #[.int .i64 1, .int .i64 x] 56)) := (by with_reducible (repeat (first | (refine below_drewN ?_ _) | (refine Below.drew ?_) | (refine below_alloc ?_ (by first | omega | (simp; done) | (simp; omega)) _) | (refine Below.setCell ?_ (by first | omega | (simp; done) | (simp; omega)) _) | exact Below.refl _ _ | assumption | (refine below_call ?_ (by first | omega | (simp; done) | (simp; omega)) (by assumption)))))
    obtain ⟨W, hW⟩ : ∃ W, (w.alloc (.cells #[.int .i64 n, .slice va vm vcap] 25)).alloc (.cells #[.int .i64 1, .int .i64 x] 56) = W := ⟨_, rfl⟩
    rw [hW] at A0 C0 BW0 ⊢
    rw [World.size_alloc] at C0
    clear hW
    rcases Bool.eq_false_or_eq_true (inB x 0 (n - 1)) with g | g
    rotate_left
    · obtain ⟨I, φ, h0, hφ, hmk⟩ := famOf (W).heap.size (W)
      haveI : Nonempty I := h0.elim fun i _ => ⟨i⟩
      have H0 := Lib.hid h0; have HF := Lib.hid hφ; have HMK := Lib.hid hmk; have HBs : Hid ((W).heap.size ≤ (W).heap.size) := Lib.hid (Nat.le_refl _)
      clear h0 hφ hmk
      obtain ⟨G_0, G_1, G_2, G_3, G_4⟩ := box2F fun i => A0.below (HF.out i) A0.lt
      obtain ⟨C_0, C_1, C_2, C_3, C_4⟩ := box2F fun i => C0.below (HF.out i) C0.lt
      have HWN : Hid (∀ W', Calls Try.prog 67 #[.int .i64 x, .int .i64 0, .int .i64 (n - 1)] W' fun e w' => e = .returned (.bool false) ∧ W' = w') := Lib.hid fun W' => by rw [← g]; exact within_any _ _ _ _
      refine wp_region_fam φ H0.out (by kernel_rfl) (by kernel_rfl) ?_
      repeat (go_big_quiet_step (first | (go_at_call 67; exact quiet_fam_same (HWN.out _))))
      refine wpQuiet_nil ?_
      intro _ hw'
      obtain ⟨nq, hw''⟩ := hw'
      subst hw''
      have hb := HF.out nq
      obtain ⟨w1, hw2⟩ : ∃ x, φ nq = x := ⟨_, rfl⟩
      rw [hw2] at hb ⊢
      clear hw2
      go_wp2_with fail
      go_ret2
      exact ⟨by rw [useV, hop_1no g, if_pos rfl]; rfl, BW0.trans (hb.mono BW0.size)⟩
    have hx : nd n.toNat x := by rw [HG.out.nN]; have := inB_iff.1 g; omega
    have HX := Lib.hid hx; have HGN := Lib.hid g
    have hx2 := HG.out.nN.1 hx
    obtain ⟨d, hd⟩ : ∃ d, distL n ls at_ = d := ⟨_, rfl⟩
    have HD := Lib.hid hd
    have HL : Hid (d.length = n.toNat) := Lib.hid (by rw [← hd]; exact distL_len n ls at_)
    obtain ⟨dx, hdx⟩ : ∃ e, atD d x = e := ⟨_, rfl⟩
    have HDX := Lib.hid hdx
    obtain ⟨hx0, hxn⟩ := hx2
    have hxl : x < (d.length : Int) := by have := HL.out; omega
    have hxl2 : x.toNat < d.length := by omega
    have A := Lib.hid A0; have C := Lib.hid C0; have BW := Lib.hid BW0
    obtain ⟨A_0, A_1, A_2, A_3, A_4⟩ := box2 A0
    obtain ⟨C_0, C_1, C_2, C_3, C_4⟩ := box2 C0
    clear A0 C0 BW0 hx hd hdx g
    have BWD := Lib.hid BW.out.drew
    refine wp_region_noPanic ?_
    refine wp_region_held_drew (S := (fun w' => w'.cell? ⟨w.heap.size, 0, none⟩ = some (.int .i64 n) ∧ w'.cell? ⟨w.heap.size, 1, none⟩ = some (.slice va vm vcap) ∧ w'.cell? ⟨w.heap.size + 1, 1, none⟩ = some (.int .i64 x))) (by kernel_rfl) (by ((try dsimp only); (first | go_keep | exact ⟨A_0, A_1, C_1⟩))) (fun hHeld => ?_)
    refine wpAnyH_take (i := 0) (oi := _) (v := ?_) rfl (by kernel_rfl) (by kernel_rfl) (by kernel_rfl) (fun _ _ _ h => h) (Or.inl ⟨by rfl, ?_⟩) (by assumption) ?_
    rotate_left
    focus (intro w hSw; (try dsimp only at hSw); go_simp; try (with_reducible rfl))
    try simp only [List.getElem_toArray, List.getElem_cons_zero, List.getElem_cons_succ, Act.put, List.setIfInBounds_toArray, List.set_cons_zero, List.set_cons_succ]
    refine wpAnyH_take (i := 1) (oi := _) (v := ?_) rfl (by kernel_rfl) (by kernel_rfl) (by kernel_rfl) (fun _ _ _ h => h) (Or.inl ⟨by rfl, ?_⟩) (by assumption) ?_
    rotate_left
    focus (intro w hSw; (try dsimp only at hSw); go_simp; try (with_reducible rfl))
    try simp only [List.getElem_toArray, List.getElem_cons_zero, List.getElem_cons_succ, Act.put, List.setIfInBounds_toArray, List.set_cons_zero, List.set_cons_succ]
    refine wpAnyH_take (i := 2) (oi := _) (v := ?_) rfl (by kernel_rfl) (by kernel_rfl) (by kernel_rfl) (fun _ _ _ h => h) (Or.inl ⟨by rfl, ?_⟩) (by assumption) ?_
    rotate_left
    focus (intro w hSw; (try dsimp only at hSw); go_simp; try (with_reducible rfl))
    try simp only [List.getElem_toArray, List.getElem_cons_zero, List.getElem_cons_succ, Act.put, List.setIfInBounds_toArray, List.set_cons_zero, List.set_cons_succ]
    refine wpAnyH_take (i := 3) (oi := _) (v := ?_) rfl (by kernel_rfl) (by kernel_rfl) (by kernel_rfl) (fun _ _ _ h => h) (Or.inl ⟨by rfl, ?_⟩) (by assumption) ?_
    rotate_left
    focus (intro w hSw; (try dsimp only at hSw); go_simp; try (with_reducible rfl))
    try simp only [List.getElem_toArray, List.getElem_cons_zero, List.getElem_cons_succ, Act.put, List.setIfInBounds_toArray, List.set_cons_zero, List.set_cons_succ]
    refine wpAnyH_take (i := 4) (oi := _) (v := ?_) rfl (by kernel_rfl) (by kernel_rfl) (by kernel_rfl) (fun _ _ _ h => h) (Or.inl ⟨by rfl, ?_⟩) (by assumption) ?_
    rotate_left
    focus (intro w hSw; (try dsimp only at hSw); go_simp; try (with_reducible rfl))
    try simp only [List.getElem_toArray, List.getElem_cons_zero, List.getElem_cons_succ, Act.put, List.setIfInBounds_toArray, List.set_cons_zero, List.set_cons_succ]
    refine wpAnyH_take (i := 5) (oi := _) (v := ?_) rfl (by kernel_rfl) (by kernel_rfl) (by kernel_rfl) (fun _ _ _ h => h) (Or.inl ⟨by rfl, ?_⟩) (by assumption) ?_
    rotate_left
    focus (intro w hSw; (try dsimp only at hSw); go_simp; try (with_reducible rfl))
    try simp only [List.getElem_toArray, List.getElem_cons_zero, List.getElem_cons_succ, Act.put, List.setIfInBounds_toArray, List.set_cons_zero, List.set_cons_succ]
    refine wpAnyH_take (i := 6) (oi := _) (v := ?_) rfl (by kernel_rfl) (by kernel_rfl) (by kernel_rfl) (fun _ _ _ h => h) (Or.inl ⟨by rfl, ?_⟩) (by assumption) ?_
    rotate_left
    focus (intro w hSw; (try dsimp only at hSw); go_simp; try (with_reducible rfl))
    try simp only [List.getElem_toArray, List.getElem_cons_zero, List.getElem_cons_succ, Act.put, List.setIfInBounds_toArray, List.set_cons_zero, List.set_cons_succ]
    refine wpAnyH_ready (rs := [7]) (by kernel_rfl) (by simp) ?_
    refine AllReadyH.cons (o := _) rfl (fun K hK => ?_) AllReadyH.nil
    go_simp
    (go_at_call 67; refine (within_any _ _ _ _).mono ?_; rw [HGN.out]; rintro e w' ⟨rfl, rfl⟩; go_wp2_with fail)
    refine hK.out _ _ (by ((try dsimp only); (first | go_keep | exact ⟨A_0, A_1, C_1⟩))) (fun hHeld => ?_)
    clear hK K
    try simp only [List.getElem_toArray, List.getElem_cons_zero, List.getElem_cons_succ, Act.put, List.setIfInBounds_toArray, List.set_cons_zero, List.set_cons_succ]
    refine wpAnyH_take (i := 8) (oi := _) (v := ?_) rfl (by kernel_rfl) (by kernel_rfl) (by kernel_rfl) (fun _ _ _ h => h) (Or.inl ⟨by rfl, ?_⟩) (by assumption) ?_
    rotate_left
    focus (intro w hSw; (try dsimp only at hSw); go_simp; try (with_reducible rfl))
    try simp only [List.getElem_toArray, List.getElem_cons_zero, List.getElem_cons_succ, Act.put, List.setIfInBounds_toArray, List.set_cons_zero, List.set_cons_succ]
    refine wpAnyH_take (i := 9) (oi := _) (v := ?_) rfl (by kernel_rfl) (by kernel_rfl) (by kernel_rfl) (fun _ _ _ h => h) (Or.inl ⟨by rfl, ?_⟩) (by assumption) ?_
    rotate_left
    focus (intro w hSw; (try dsimp only at hSw); go_simp; try (with_reducible rfl))
    try simp only [List.getElem_toArray, List.getElem_cons_zero, List.getElem_cons_succ, Act.put, List.setIfInBounds_toArray, List.set_cons_zero, List.set_cons_succ]
    refine wpAnyH_take (i := 10) (oi := _) (v := ?_) rfl (by kernel_rfl) (by kernel_rfl) (by kernel_rfl) (fun _ _ _ h => h) (Or.inl ⟨by rfl, ?_⟩) (by assumption) ?_
    rotate_left
    focus (intro w hSw; (try dsimp only at hSw); go_simp; try (with_reducible rfl))
    try simp only [List.getElem_toArray, List.getElem_cons_zero, List.getElem_cons_succ, Act.put, List.setIfInBounds_toArray, List.set_cons_zero, List.set_cons_succ]
    refine wpAnyH_take (i := 12) (oi := _) (v := ?_) rfl (by kernel_rfl) (by kernel_rfl) (by kernel_rfl) (fun _ _ _ h => h) (Or.inl ⟨by rfl, ?_⟩) (by assumption) ?_
    rotate_left
    focus (intro w hSw; (try dsimp only at hSw); go_simp; try (with_reducible rfl))
    try simp only [List.getElem_toArray, List.getElem_cons_zero, List.getElem_cons_succ, Act.put, List.setIfInBounds_toArray, List.set_cons_zero, List.set_cons_succ]
    refine wpAnyH_take (i := 13) (oi := _) (v := ?_) rfl (by kernel_rfl) (by kernel_rfl) (by kernel_rfl) (fun _ _ _ h => h) (Or.inl ⟨by rfl, ?_⟩) (by assumption) ?_
    rotate_left
    focus (intro w hSw; (try dsimp only at hSw); go_simp; try (with_reducible rfl))
    try simp only [List.getElem_toArray, List.getElem_cons_zero, List.getElem_cons_succ, Act.put, List.setIfInBounds_toArray, List.set_cons_zero, List.set_cons_succ]
    refine wpAnyH_ready (rs := [11]) (by kernel_rfl) (by simp) ?_
    refine AllReadyH.cons (o := _) rfl (fun K hK => ?_) AllReadyH.nil
    go_simp
    (go_at_call 45; refine (iDist n ls at_ _ _ (HV.out.below BWD.out (Nat.le_refl _)) HG.out HA.out).mono ?_; rintro e w1 ⟨v1, rfl, hO, hb⟩; have kk := Lib.hid (below_call (B := W.heap.size) (a := W) (by with_reducible (repeat (first | (refine below_drewN ?_ _) | (refine Below.drew ?_) | (refine below_alloc ?_ (by first | omega | (simp; done) | (simp; omega)) _) | (refine Below.setCell ?_ (by first | omega | (simp; done) | (simp; omega)) _) | exact Below.refl _ _ | assumption | (refine below_call ?_ (by first | omega | (simp; done) | (simp; omega)) (by assumption))))) (Nat.le_refl _) hb); replace BW := Lib.hid (BW.out.trans (kk.out.mono BW.out.size)); replace A := Lib.hid (A.out.below kk.out A.out.lt); clear A_0 A_1 A_2 A_3 A_4; obtain ⟨A_0, A_1, A_2, A_3, A_4⟩ := box2 A.out; replace C := Lib.hid (C.out.below kk.out C.out.lt); clear C_0 C_1 C_2 C_3 C_4; obtain ⟨C_0, C_1, C_2, C_3, C_4⟩ := box2 C.out; rw [HD.out] at hO; obtain ⟨g1, c1, hgc, hlo⟩ := own_pos hO.1 (by have := HL.out; omega); subst hgc; obtain ⟨r0, r1⟩ := row_at hO.1 rfl (show nd d.length x by rw [HL.out]; exact HX.out); rw [HDX.out] at r0; clear hO hb kk)
    refine hK.out _ _ (by ((try dsimp only); (first | go_keep | exact ⟨A_0, A_1, C_1⟩))) (fun hHeld => ?_)
    clear hK K
    try simp only [List.getElem_toArray, List.getElem_cons_zero, List.getElem_cons_succ, Act.put, List.setIfInBounds_toArray, List.set_cons_zero, List.set_cons_succ]
    refine wpAnyH_take (i := 14) (oi := _) (v := ?_) rfl (by kernel_rfl) (by kernel_rfl) (by kernel_rfl) (fun _ _ _ h => h) (Or.inl ⟨by rfl, ?_⟩) (by assumption) ?_
    rotate_left
    focus (intro w hSw; (try dsimp only at hSw); go_simp; try (with_reducible rfl))
    try simp only [List.getElem_toArray, List.getElem_cons_zero, List.getElem_cons_succ, Act.put, List.setIfInBounds_toArray, List.set_cons_zero, List.set_cons_succ]
    refine wpAnyH_take (i := 18) (oi := _) (v := ?_) rfl (by kernel_rfl) (by kernel_rfl) (by kernel_rfl) (fun _ _ _ h => h) (Or.inl ⟨by rfl, ?_⟩) (by assumption) ?_
    rotate_left
    focus (intro w hSw; (try dsimp only at hSw); go_simp; try (with_reducible rfl))
    try simp only [List.getElem_toArray, List.getElem_cons_zero, List.getElem_cons_succ, Act.put, List.setIfInBounds_toArray, List.set_cons_zero, List.set_cons_succ]
    refine wpAnyH_ready (rs := [15]) (by kernel_rfl) (by simp) ?_
    refine AllReadyH.cons (o := _) rfl (fun K hK => ?_) AllReadyH.nil
    go_simp
    refine hK.out _ _ (by ((try dsimp only); (first | go_keep | exact ⟨A_0, A_1, C_1⟩))) (fun hHeld => ?_)
    clear hK K
    try simp only [List.getElem_toArray, List.getElem_cons_zero, List.getElem_cons_succ, Act.put, List.setIfInBounds_toArray, List.set_cons_zero, List.set_cons_succ]
    refine wpAnyH_take (i := 16) (oi := _) (v := ?_) rfl (by kernel_rfl) (by kernel_rfl) (by kernel_rfl) (fun _ _ _ h => h) (Or.inl ⟨by rfl, ?_⟩) (by assumption) ?_
    rotate_left
    focus (intro w hSw; (try dsimp only at hSw); go_simp; try (with_reducible rfl))
    try simp only [List.getElem_toArray, List.getElem_cons_zero, List.getElem_cons_succ, Act.put, List.setIfInBounds_toArray, List.set_cons_zero, List.set_cons_succ]
    refine wpAnyH_take (i := 17) (oi := _) (v := ?_) rfl (by kernel_rfl) (by kernel_rfl) (by kernel_rfl) (fun _ _ _ h => h) (Or.inl ⟨by rfl, ?_⟩) (by assumption) ?_
    rotate_left
    focus (intro w hSw; (try dsimp only at hSw); go_simp; try (with_reducible rfl))
    try simp only [List.getElem_toArray, List.getElem_cons_zero, List.getElem_cons_succ, Act.put, List.setIfInBounds_toArray, List.set_cons_zero, List.set_cons_succ]
    refine wpAnyH_take (i := 19) (oi := _) (v := ?_) rfl (by kernel_rfl) (by kernel_rfl) (by kernel_rfl) (fun _ _ _ h => h) (Or.inl ⟨by rfl, ?_⟩) (by assumption) ?_
    rotate_left
    focus (intro w hSw; (try dsimp only at hSw); go_simp; try (with_reducible rfl))
    try simp only [List.getElem_toArray, List.getElem_cons_zero, List.getElem_cons_succ, Act.put, List.setIfInBounds_toArray, List.set_cons_zero, List.set_cons_succ]
    refine wpAnyH_done (by kernel_rfl) ?_ _
    refine NoPanic.normal ?_
    go_wp2_with fail
    go_ret2
    by_cases h0 : 0 ≤ dx
    · have hh : hopTo n ls at_ (1, x) = some x := hop_1 HGN.out (by unfold distG; rw [HD.out, HDX.out]; exact h0)
      exact ⟨(by show Ending.returned (.tuple #[.int .i64 x, .bool (decide (0 ≤ dx))]) = _; rw [useV, hh]; simp [h0]), BW.out⟩
    · have hh : hopTo n ls at_ (1, x) = none := hop_1far (by unfold distG; rw [HD.out, HDX.out]; omega)
      exact ⟨(by show Ending.returned (.tuple #[.int .i64 x, .bool (decide (0 ≤ dx))]) = _; rw [useV, hh]; simp; omega), BW.out⟩
  · obtain rfl : k = 2 := by omega
    have b1 : ((2:Int) == 1) = false := by simp
    have b2 : ((2:Int) == 2) = true := by simp
    rcases Bool.eq_false_or_eq_true (inB x 0 ((vm:Int) - 1)) with g | g
    rotate_left
    · have HGN := Lib.hid g
      go_enter Try.func75, Try.ntmps75
      go_wp2_with (go_at_call 67; refine (within_any _ _ _ _).mono ?_; rw [HGN.out]; rintro e w' ⟨rfl, rfl⟩)
      go_ret2
      exact ⟨by rw [useV, hop_2no (HVM.out ▸ HGN.out)]; rfl, (by with_reducible (repeat (first | (refine below_drewN ?_ _) | (refine Below.drew ?_) | (refine below_alloc ?_ (by first | omega | (simp; done) | (simp; omega)) _) | (refine Below.setCell ?_ (by first | omega | (simp; done) | (simp; omega)) _) | exact Below.refl _ _ | assumption | (refine below_call ?_ (by first | omega | (simp; done) | (simp; omega)) (by assumption)))))⟩
    have hx := inB_iff.1 g
    have HGN := Lib.hid g
    obtain ⟨j, rfl⟩ : ∃ j : Nat, x = j := ⟨x.toNat, by omega⟩
    obtain ⟨⟨x, y, z⟩, hl⟩ := at_lt HVM.out (show j < vm by omega)
    have hva := HVA.out (by omega)
    subst hva
    obtain ⟨d0, d1, d2⟩ := HVC.out j x y z hl
    have hbd := cell_lt d0
    have hjI : (j:Int) < (vm:Int) := by omega
    have HL := Lib.hid hl
    clear hl g
    go_enter Try.func75, Try.ntmps75
    go_wp2_with (go_at_call 67; refine (within_any _ _ _ _).mono ?_; rw [HGN.out]; rintro e w' ⟨rfl, rfl⟩)
    refine (iOther x y z at_ _).mono ?_
    rintro e w1 ⟨rfl, hb⟩
    have BW := Lib.hid (below_call (B := w.heap.size) (a := w) (by with_reducible (repeat (first | (refine below_drewN ?_ _) | (refine Below.drew ?_) | (refine below_alloc ?_ (by first | omega | (simp; done) | (simp; omega)) _) | (refine Below.setCell ?_ (by first | omega | (simp; done) | (simp; omega)) _) | exact Below.refl _ _ | assumption | (refine below_call ?_ (by first | omega | (simp; done) | (simp; omega)) (by assumption))))) (Nat.le_refl _) hb)
    clear hb
    go_wp2_with fail
    go_ret2
    exact ⟨(by show Ending.returned (.tuple #[.int .i64 ((otherEnd (x, y, z) at_).getD 0), .bool (otherEnd (x, y, z) at_).isSome]) = _; rw [useV, hop_2 HL.out]; rfl), BW.out⟩
theorem useV_some {n : Int} {ls : List LinkD} {a b : Int} {l : LabelD} (hh : hopTo n ls a l = some b) : useV n ls a l = b := by
  unfold useV
  by_cases e : l.1 = 1
  · rw [if_pos e]
    unfold hopTo at hh
    rw [if_pos e] at hh
    split at hh
    · exact Option.some.inj hh
    · cases hh
  · rw [if_neg e, hh]; rfl
theorem stepV_some {n : Int} {ls : List LinkD} {a b : Int} {l : LabelD} (hh : hopTo n ls a l = some b) : stepV n ls a l = b := by unfold stepV; rw [hh]; rfl
end Go.Proofs.Ytoebefpmfgkpoaa
namespace Go.Proofs.Ytoebefpmfgkpoaa
set_option linter.unusedSimpArgs false
set_option linter.unusedVariables false
open Go.RowKit

set_option maxRecDepth 100000 in
set_option maxHeartbeats 4000000 in
theorem sStep (n : Int) (ls : List LinkD) (at_ k x : Int) (v : Value) (w : World) (hv : TriplesAt w v ls) (h : GOk n ls) (ha : nd n.toNat at_) :
    Calls Try.prog 85 #[.agg #[.int .i64 n, v], .int .i64 at_, .agg #[.int .i64 k, .int .i64 x]] w (HopPost w n ls at_ (k, x) (stepV n ls at_ (k, x))) := by
  have HV := Lib.hid hv
  obtain ⟨va, vcap, vb, voff, rfl, hvcap, hvmax, hva, hvc⟩ := hv
  obtain ⟨vm, hvm⟩ : ∃ m, m = ls.length := ⟨_, rfl⟩
  rw [← hvm] at hvcap hva HV ⊢
  have HVM := Lib.hid hvm; have HVC := Lib.hid hvc; have HVA := Lib.hid hva
  have hvl : vm ≤ 14 := by have := h.len; omega
  clear hvm hvc hva
  have HG := Lib.hid h; have HA := Lib.hid ha
  have hn1 := h.n1
  have hn8 := h.n8
  clear h ha
  by_cases h3 : k ≠ 1 ∧ k ≠ 2
  · obtain ⟨h1, h2⟩ := h3
    have b1 : (k == 1) = false := by simpa using h1
    have b2 : (k == 2) = false := by simpa using h2
    go_enter Try.func85, Try.ntmps85
    go_wp2_with fail
    go_ret2
    exact ⟨by rw [stepV, hop_3 h1 h2]; rfl, (by with_reducible (repeat (first | (refine below_drewN ?_ _) | (refine Below.drew ?_) | (refine below_alloc ?_ (by first | omega | (simp; done) | (simp; omega)) _) | (refine Below.setCell ?_ (by first | omega | (simp; done) | (simp; omega)) _) | exact Below.refl _ _ | assumption | (refine below_call ?_ (by first | omega | (simp; done) | (simp; omega)) (by assumption)))))⟩
  have hw : IntKind.i64.wrap (n - 1) = n - 1 := IntWalk.i64_in _ (by omega)
  have hw2 : IntKind.i64.wrap ((vm:Int) - 1) = (vm:Int) - 1 := IntWalk.i64_in _ (by omega)
  by_cases h1 : k = 1
  · subst h1
    have b1 : ((1:Int) == 1) = true := by simp
    go_enter Try.func85, Try.ntmps85
    go_wp2_with fail
    have A0 := (box_new w #[.int .i64 n, .slice va vm vcap] 25).alloc (.cells #[.int .i64 1, .int .i64 x] 56)
    have C0 := box_new (w.alloc (.cells #[.int .i64 n, .slice va vm vcap] 25)) #[.int .i64 1, .int .i64 x] 56
    have BW0 : Below w.heap.size w ((w.alloc (.cells #[.int .i64 n, .slice va vm vcap] 25)).alloc (.cells #[.int .i64 1, .int .i64 x] 56)) := (by with_reducible (repeat (first | (refine below_drewN ?_ _) | (refine Below.drew ?_) | (refine below_alloc ?_ (by first | omega | (simp; done) | (simp; omega)) _) | (refine Below.setCell ?_ (by first | omega | (simp; done) | (simp; omega)) _) | exact Below.refl _ _ | assumption | (refine below_call ?_ (by first | omega | (simp; done) | (simp; omega)) (by assumption)))))
    obtain ⟨W, hW⟩ : ∃ W, (w.alloc (.cells #[.int .i64 n, .slice va vm vcap] 25)).alloc (.cells #[.int .i64 1, .int .i64 x] 56) = W := ⟨_, rfl⟩
    rw [hW] at A0 C0 BW0 ⊢
    rw [World.size_alloc] at C0
    clear hW
    rcases Bool.eq_false_or_eq_true (inB x 0 (n - 1)) with g | g
    rotate_left
    · obtain ⟨I, φ, h0, hφ, hmk⟩ := famOf (W).heap.size (W)
      haveI : Nonempty I := h0.elim fun i _ => ⟨i⟩
      have H0 := Lib.hid h0; have HF := Lib.hid hφ; have HMK := Lib.hid hmk; have HBs : Hid ((W).heap.size ≤ (W).heap.size) := Lib.hid (Nat.le_refl _)
      clear h0 hφ hmk
      obtain ⟨G_0, G_1, G_2, G_3, G_4⟩ := box2F fun i => A0.below (HF.out i) A0.lt
      obtain ⟨C_0, C_1, C_2, C_3, C_4⟩ := box2F fun i => C0.below (HF.out i) C0.lt
      have HWN : Hid (∀ i, Calls Try.prog 72 #[.agg #[.int .i64 n, .slice va vm vcap], .int .i64 x] (φ i) fun e w' => e = .returned (.bool false) ∧ Below (φ i).heap.size (φ i) w') := Lib.hid fun i => by rw [← g]; exact sNode _ _ _ _ hn1 hn8
      refine wp_region_fam φ H0.out (by kernel_rfl) (by kernel_rfl) ?_
      repeat (go_big_quiet_step (first | (go_at_call 72; exact quiet_fam HF.out HBs.out HMK.out (HWN.out _))))
      refine wpQuiet_nil ?_
      intro _ hw'
      obtain ⟨nq, hw''⟩ := hw'
      subst hw''
      have hb := HF.out nq
      obtain ⟨w1, hw2⟩ : ∃ x, φ nq = x := ⟨_, rfl⟩
      rw [hw2] at hb ⊢
      clear hw2
      go_wp2_with fail
      go_ret2
      exact ⟨by rw [stepV, hop_1no g]; rfl, BW0.trans (hb.mono BW0.size)⟩
    have hx : nd n.toNat x := by rw [HG.out.nN]; have := inB_iff.1 g; omega
    have HX := Lib.hid hx; have HGN := Lib.hid g
    have hx2 := HG.out.nN.1 hx
    obtain ⟨d, hd⟩ : ∃ d, distL n ls at_ = d := ⟨_, rfl⟩
    have HD := Lib.hid hd
    have HL : Hid (d.length = n.toNat) := Lib.hid (by rw [← hd]; exact distL_len n ls at_)
    obtain ⟨dx, hdx⟩ : ∃ e, atD d x = e := ⟨_, rfl⟩
    have HDX := Lib.hid hdx
    obtain ⟨hx0, hxn⟩ := hx2
    have hxl : x < (d.length : Int) := by have := HL.out; omega
    have hxl2 : x.toNat < d.length := by omega
    have A := Lib.hid A0; have C := Lib.hid C0; have BW := Lib.hid BW0
    obtain ⟨A_0, A_1, A_2, A_3, A_4⟩ := box2 A0
    obtain ⟨C_0, C_1, C_2, C_3, C_4⟩ := box2 C0
    clear A0 C0 BW0 hx hd hdx g
    have BWD := Lib.hid BW.out.drew
    refine wp_region_noPanic ?_
    refine wp_region_held_drew (S := (fun w' => w'.cell? ⟨w.heap.size, 0, none⟩ = some (.int .i64 n) ∧ w'.cell? ⟨w.heap.size, 1, none⟩ = some (.slice va vm vcap) ∧ w'.cell? ⟨w.heap.size + 1, 1, none⟩ = some (.int .i64 x))) (by kernel_rfl) (by ((try dsimp only); (first | go_keep | exact ⟨A_0, A_1, C_1⟩))) (fun hHeld => ?_)
    refine wpAnyH_take (i := 0) (oi := _) (v := ?_) rfl (by kernel_rfl) (by kernel_rfl) (by kernel_rfl) (fun _ _ _ h => h) (Or.inl ⟨by rfl, ?_⟩) (by assumption) ?_
    rotate_left
    focus (intro w hSw; (try dsimp only at hSw); go_simp; try (with_reducible rfl))
    try simp only [List.getElem_toArray, List.getElem_cons_zero, List.getElem_cons_succ, Act.put, List.setIfInBounds_toArray, List.set_cons_zero, List.set_cons_succ]
    refine wpAnyH_take (i := 1) (oi := _) (v := ?_) rfl (by kernel_rfl) (by kernel_rfl) (by kernel_rfl) (fun _ _ _ h => h) (Or.inl ⟨by rfl, ?_⟩) (by assumption) ?_
    rotate_left
    focus (intro w hSw; (try dsimp only at hSw); go_simp; try (with_reducible rfl))
    try simp only [List.getElem_toArray, List.getElem_cons_zero, List.getElem_cons_succ, Act.put, List.setIfInBounds_toArray, List.set_cons_zero, List.set_cons_succ]
    refine wpAnyH_take (i := 2) (oi := _) (v := ?_) rfl (by kernel_rfl) (by kernel_rfl) (by kernel_rfl) (fun _ _ _ h => h) (Or.inl ⟨by rfl, ?_⟩) (by assumption) ?_
    rotate_left
    focus (intro w hSw; (try dsimp only at hSw); go_simp; try (with_reducible rfl))
    try simp only [List.getElem_toArray, List.getElem_cons_zero, List.getElem_cons_succ, Act.put, List.setIfInBounds_toArray, List.set_cons_zero, List.set_cons_succ]
    refine wpAnyH_ready (rs := [3]) (by kernel_rfl) (by simp) ?_
    refine AllReadyH.cons (o := _) rfl (fun K hK => ?_) AllReadyH.nil
    go_simp
    (go_at_call 72; refine (sNode _ _ _ _ hn1 hn8).mono ?_; rw [HGN.out]; rintro e w2 ⟨rfl, hb⟩; have kk := Lib.hid (below_call (B := W.heap.size) (a := W) (by with_reducible (repeat (first | (refine below_drewN ?_ _) | (refine Below.drew ?_) | (refine below_alloc ?_ (by first | omega | (simp; done) | (simp; omega)) _) | (refine Below.setCell ?_ (by first | omega | (simp; done) | (simp; omega)) _) | exact Below.refl _ _ | assumption | (refine below_call ?_ (by first | omega | (simp; done) | (simp; omega)) (by assumption))))) (Nat.le_refl _) hb); replace BW := Lib.hid (BW.out.trans (kk.out.mono BW.out.size)); replace A := Lib.hid (A.out.below kk.out A.out.lt); clear A_0 A_1 A_2 A_3 A_4; obtain ⟨A_0, A_1, A_2, A_3, A_4⟩ := box2 A.out; replace C := Lib.hid (C.out.below kk.out C.out.lt); clear C_0 C_1 C_2 C_3 C_4; obtain ⟨C_0, C_1, C_2, C_3, C_4⟩ := box2 C.out; clear hb kk)
    refine hK.out _ _ (by ((try dsimp only); (first | go_keep | exact ⟨A_0, A_1, C_1⟩))) (fun hHeld => ?_)
    clear hK K
    try simp only [List.getElem_toArray, List.getElem_cons_zero, List.getElem_cons_succ, Act.put, List.setIfInBounds_toArray, List.set_cons_zero, List.set_cons_succ]
    refine wpAnyH_take (i := 4) (oi := _) (v := ?_) rfl (by kernel_rfl) (by kernel_rfl) (by kernel_rfl) (fun _ _ _ h => h) (Or.inl ⟨by rfl, ?_⟩) (by assumption) ?_
    rotate_left
    focus (intro w hSw; (try dsimp only at hSw); go_simp; try (with_reducible rfl))
    try simp only [List.getElem_toArray, List.getElem_cons_zero, List.getElem_cons_succ, Act.put, List.setIfInBounds_toArray, List.set_cons_zero, List.set_cons_succ]
    refine wpAnyH_take (i := 5) (oi := _) (v := ?_) rfl (by kernel_rfl) (by kernel_rfl) (by kernel_rfl) (fun _ _ _ h => h) (Or.inl ⟨by rfl, ?_⟩) (by assumption) ?_
    rotate_left
    focus (intro w hSw; (try dsimp only at hSw); go_simp; try (with_reducible rfl))
    try simp only [List.getElem_toArray, List.getElem_cons_zero, List.getElem_cons_succ, Act.put, List.setIfInBounds_toArray, List.set_cons_zero, List.set_cons_succ]
    refine wpAnyH_take (i := 6) (oi := _) (v := ?_) rfl (by kernel_rfl) (by kernel_rfl) (by kernel_rfl) (fun _ _ _ h => h) (Or.inl ⟨by rfl, ?_⟩) (by assumption) ?_
    rotate_left
    focus (intro w hSw; (try dsimp only at hSw); go_simp; try (with_reducible rfl))
    try simp only [List.getElem_toArray, List.getElem_cons_zero, List.getElem_cons_succ, Act.put, List.setIfInBounds_toArray, List.set_cons_zero, List.set_cons_succ]
    refine wpAnyH_take (i := 8) (oi := _) (v := ?_) rfl (by kernel_rfl) (by kernel_rfl) (by kernel_rfl) (fun _ _ _ h => h) (Or.inl ⟨by rfl, ?_⟩) (by assumption) ?_
    rotate_left
    focus (intro w hSw; (try dsimp only at hSw); go_simp; try (with_reducible rfl))
    try simp only [List.getElem_toArray, List.getElem_cons_zero, List.getElem_cons_succ, Act.put, List.setIfInBounds_toArray, List.set_cons_zero, List.set_cons_succ]
    refine wpAnyH_take (i := 9) (oi := _) (v := ?_) rfl (by kernel_rfl) (by kernel_rfl) (by kernel_rfl) (fun _ _ _ h => h) (Or.inl ⟨by rfl, ?_⟩) (by assumption) ?_
    rotate_left
    focus (intro w hSw; (try dsimp only at hSw); go_simp; try (with_reducible rfl))
    try simp only [List.getElem_toArray, List.getElem_cons_zero, List.getElem_cons_succ, Act.put, List.setIfInBounds_toArray, List.set_cons_zero, List.set_cons_succ]
    refine wpAnyH_ready (rs := [7]) (by kernel_rfl) (by simp) ?_
    refine AllReadyH.cons (o := _) rfl (fun K hK => ?_) AllReadyH.nil
    go_simp
    (go_at_call 74; refine (sDist n ls at_ _ _ (HV.out.below BW.out (Nat.le_refl _)) HG.out HA.out).mono ?_; rintro e w1 ⟨v1, rfl, hO, hb⟩; have kk := Lib.hid (below_call (B := w2.heap.size) (a := w2) (by with_reducible (repeat (first | (refine below_drewN ?_ _) | (refine Below.drew ?_) | (refine below_alloc ?_ (by first | omega | (simp; done) | (simp; omega)) _) | (refine Below.setCell ?_ (by first | omega | (simp; done) | (simp; omega)) _) | exact Below.refl _ _ | assumption | (refine below_call ?_ (by first | omega | (simp; done) | (simp; omega)) (by assumption))))) (Nat.le_refl _) hb); replace BW := Lib.hid (BW.out.trans (kk.out.mono BW.out.size)); replace A := Lib.hid (A.out.below kk.out A.out.lt); clear A_0 A_1 A_2 A_3 A_4; obtain ⟨A_0, A_1, A_2, A_3, A_4⟩ := box2 A.out; replace C := Lib.hid (C.out.below kk.out C.out.lt); clear C_0 C_1 C_2 C_3 C_4; obtain ⟨C_0, C_1, C_2, C_3, C_4⟩ := box2 C.out; rw [HD.out] at hO; obtain ⟨g1, c1, hgc, hlo⟩ := own_pos hO.1 (by have := HL.out; omega); subst hgc; obtain ⟨r0, r1⟩ := row_at hO.1 rfl (show nd d.length x by rw [HL.out]; exact HX.out); rw [HDX.out] at r0; clear hO hb kk)
    refine hK.out _ _ (by ((try dsimp only); (first | go_keep | exact ⟨A_0, A_1, C_1⟩))) (fun hHeld => ?_)
    clear hK K
    try simp only [List.getElem_toArray, List.getElem_cons_zero, List.getElem_cons_succ, Act.put, List.setIfInBounds_toArray, List.set_cons_zero, List.set_cons_succ]
    refine wpAnyH_take (i := 10) (oi := _) (v := ?_) rfl (by kernel_rfl) (by kernel_rfl) (by kernel_rfl) (fun _ _ _ h => h) (Or.inl ⟨by rfl, ?_⟩) (by assumption) ?_
    rotate_left
    focus (intro w hSw; (try dsimp only at hSw); go_simp; try (with_reducible rfl))
    try simp only [List.getElem_toArray, List.getElem_cons_zero, List.getElem_cons_succ, Act.put, List.setIfInBounds_toArray, List.set_cons_zero, List.set_cons_succ]
    refine wpAnyH_ready (rs := [11]) (by kernel_rfl) (by simp) ?_
    refine AllReadyH.cons (o := _) rfl (fun K hK => ?_) AllReadyH.nil
    go_simp
    refine hK.out _ _ (by ((try dsimp only); (first | go_keep | exact ⟨A_0, A_1, C_1⟩))) (fun hHeld => ?_)
    clear hK K
    try simp only [List.getElem_toArray, List.getElem_cons_zero, List.getElem_cons_succ, Act.put, List.setIfInBounds_toArray, List.set_cons_zero, List.set_cons_succ]
    refine wpAnyH_take (i := 12) (oi := _) (v := ?_) rfl (by kernel_rfl) (by kernel_rfl) (by kernel_rfl) (fun _ _ _ h => h) (Or.inl ⟨by rfl, ?_⟩) (by assumption) ?_
    rotate_left
    focus (intro w hSw; (try dsimp only at hSw); go_simp; try (with_reducible rfl))
    try simp only [List.getElem_toArray, List.getElem_cons_zero, List.getElem_cons_succ, Act.put, List.setIfInBounds_toArray, List.set_cons_zero, List.set_cons_succ]
    refine wpAnyH_take (i := 13) (oi := _) (v := ?_) rfl (by kernel_rfl) (by kernel_rfl) (by kernel_rfl) (fun _ _ _ h => h) (Or.inl ⟨by rfl, ?_⟩) (by assumption) ?_
    rotate_left
    focus (intro w hSw; (try dsimp only at hSw); go_simp; try (with_reducible rfl))
    try simp only [List.getElem_toArray, List.getElem_cons_zero, List.getElem_cons_succ, Act.put, List.setIfInBounds_toArray, List.set_cons_zero, List.set_cons_succ]
    refine wpAnyH_done (by kernel_rfl) ?_ _
    refine NoPanic.normal ?_
    by_cases h0 : 0 ≤ dx
    · have h9 : decide (0 ≤ dx) = true := by simpa using h0
      go_wp2_with fail
      go_ret2
      have hh : hopTo n ls at_ (1, x) = some x := hop_1 HGN.out (by unfold distG; rw [HD.out, HDX.out]; exact h0)
      exact ⟨(by show Ending.returned (.tuple #[.int .i64 x, .bool true]) = _; rw [stepV, hh]; rfl), BW.out⟩
    · have h9 : decide (0 ≤ dx) = false := by simpa using h0
      go_wp2_with fail
      go_ret2
      have hh : hopTo n ls at_ (1, x) = none := hop_1far (by unfold distG; rw [HD.out, HDX.out]; omega)
      exact ⟨(by show Ending.returned (.tuple #[.int .i64 0, .bool false]) = _; rw [stepV, hh]; rfl), BW.out⟩
  · obtain rfl : k = 2 := by omega
    have b1 : ((2:Int) == 1) = false := by simp
    have b2 : ((2:Int) == 2) = true := by simp
    rcases Bool.eq_false_or_eq_true (inB x 0 ((vm:Int) - 1)) with g | g
    rotate_left
    · have HGN := Lib.hid g
      go_enter Try.func85, Try.ntmps85
      go_wp2_with (go_at_call 71; refine (l6In_any _ _ _ _).mono ?_; rw [HGN.out]; rintro e w' ⟨rfl, rfl⟩)
      go_ret2
      exact ⟨by rw [stepV, hop_2no (HVM.out ▸ HGN.out)]; rfl, (by with_reducible (repeat (first | (refine below_drewN ?_ _) | (refine Below.drew ?_) | (refine below_alloc ?_ (by first | omega | (simp; done) | (simp; omega)) _) | (refine Below.setCell ?_ (by first | omega | (simp; done) | (simp; omega)) _) | exact Below.refl _ _ | assumption | (refine below_call ?_ (by first | omega | (simp; done) | (simp; omega)) (by assumption)))))⟩
    have hx := inB_iff.1 g
    have HGN := Lib.hid g
    obtain ⟨j, rfl⟩ : ∃ j : Nat, x = j := ⟨x.toNat, by omega⟩
    obtain ⟨⟨x, y, z⟩, hl⟩ := at_lt HVM.out (show j < vm by omega)
    have hva := HVA.out (by omega)
    subst hva
    obtain ⟨d0, d1, d2⟩ := HVC.out j x y z hl
    have hbd := cell_lt d0
    have hjI : (j:Int) < (vm:Int) := by omega
    have HL := Lib.hid hl
    clear hl g
    by_cases h1 : at_ = x
    · subst h1
      have b3 : (at_ == at_) = true := by simp
      go_enter Try.func85, Try.ntmps85
      go_wp2_with (go_at_call 71; refine (l6In_any _ _ _ _).mono ?_; rw [HGN.out]; rintro e w' ⟨rfl, rfl⟩)
      go_ret2
      have ho : hopTo n ls at_ (2, (j:Int)) = some y := by rw [hop_2 HL.out]; unfold otherEnd; rw [if_pos rfl]
      exact ⟨(by show Ending.returned (.tuple #[.int .i64 y, .bool true]) = _; rw [stepV, ho]; rfl), (by with_reducible (repeat (first | (refine below_drewN ?_ _) | (refine Below.drew ?_) | (refine below_alloc ?_ (by first | omega | (simp; done) | (simp; omega)) _) | (refine Below.setCell ?_ (by first | omega | (simp; done) | (simp; omega)) _) | exact Below.refl _ _ | assumption | (refine below_call ?_ (by first | omega | (simp; done) | (simp; omega)) (by assumption)))))⟩
    have b3 : (x == at_) = false := by simpa using fun e => h1 e.symm
    by_cases h2 : at_ = y
    · subst h2
      have b4 : (at_ == at_) = true := by simp
      go_enter Try.func85, Try.ntmps85
      go_wp2_with (go_at_call 71; refine (l6In_any _ _ _ _).mono ?_; rw [HGN.out]; rintro e w' ⟨rfl, rfl⟩)
      go_ret2
      have ho : hopTo n ls at_ (2, (j:Int)) = some x := by rw [hop_2 HL.out]; unfold otherEnd; rw [if_neg h1, if_pos rfl]
      exact ⟨(by show Ending.returned (.tuple #[.int .i64 x, .bool true]) = _; rw [stepV, ho]; rfl), (by with_reducible (repeat (first | (refine below_drewN ?_ _) | (refine Below.drew ?_) | (refine below_alloc ?_ (by first | omega | (simp; done) | (simp; omega)) _) | (refine Below.setCell ?_ (by first | omega | (simp; done) | (simp; omega)) _) | exact Below.refl _ _ | assumption | (refine below_call ?_ (by first | omega | (simp; done) | (simp; omega)) (by assumption)))))⟩
    have b4 : (y == at_) = false := by simpa using fun e => h2 e.symm
    go_enter Try.func85, Try.ntmps85
    go_wp2_with (go_at_call 71; refine (l6In_any _ _ _ _).mono ?_; rw [HGN.out]; rintro e w' ⟨rfl, rfl⟩)
    go_ret2
    have ho : hopTo n ls at_ (2, (j:Int)) = none := by rw [hop_2 HL.out]; unfold otherEnd; rw [if_neg h1, if_neg h2]
    exact ⟨(by show Ending.returned (.tuple #[.int .i64 0, .bool false]) = _; rw [stepV, ho]; rfl), (by with_reducible (repeat (first | (refine below_drewN ?_ _) | (refine Below.drew ?_) | (refine below_alloc ?_ (by first | omega | (simp; done) | (simp; omega)) _) | (refine Below.setCell ?_ (by first | omega | (simp; done) | (simp; omega)) _) | exact Below.refl _ _ | assumption | (refine below_call ?_ (by first | omega | (simp; done) | (simp; omega)) (by assumption)))))⟩
end Go.Proofs.Ytoebefpmfgkpoaa
