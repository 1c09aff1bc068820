/- Whether a shortest path crosses a link: linkUsed of the program: usedB (mkused.py). -/
import Derived.Test.YtkegainegkdgpaaUsedS
import Derived.Deep.RegionHeld3
namespace Go.Proofs.Ytkegainegkdgpaa
set_option linter.unusedSimpArgs false
set_option linter.unusedVariables false
open Go.RowKit

set_option maxRecDepth 100000 in
set_option maxHeartbeats 4000000 in
theorem iUsed (n : Int) (ls : List LinkD) (a b : Int) (k : Nat) (v : Value) (w : World) (hv : TriplesAt w v ls) (h : GOk n ls) (ha : nd n.toNat a) (hb : nd n.toNat b) (hk : k < ls.length) :
    Calls Try.prog 61 #[.agg #[.int .i64 n, v], .int .i64 a, .int .i64 b, .int .i64 (k:Int)] w fun e w' => e = .returned (.bool (usedB n ls a b k)) ∧ Below w.heap.size w w' := by
  have HV := Lib.hid hv
  obtain ⟨va, vcap, vb, voff, rfl, hvcap, hvmax, hva, hvc⟩ := hv
  obtain ⟨vm, hvm⟩ : ∃ m, m = ls.length := ⟨_, rfl⟩
  rw [← hvm] at hvcap hva HV hk ⊢
  have HVM := Lib.hid hvm
  have hva := hva (by omega)
  subst hva
  obtain ⟨⟨x, y, z⟩, hl⟩ := at_lt hvm hk
  obtain ⟨d0, d1, d2⟩ := hvc k x y z hl
  have hkI : (k:Int) < (vm:Int) := by omega
  have hk0 : (0:Int) ≤ (k:Int) := by omega
  have hbd := cell_lt d0
  have hn1 := h.n1
  have hn8 := h.n8
  obtain ⟨D, da, db, ea, eb, hU, hx, hy, z1, z20, q0, q1, q2, q3, q4, q5, q6, q7, q8, q9⟩ := usedAt h ha hb hl
  have HU := Lib.hid hU
  have hbi := h.nN.1 hb
  have hxi := h.nN.1 hx
  have hyi := h.nN.1 hy
  have p0 : IntKind.i64.wrap (da + z) = da + z := IntWalk.i64_in _ (by omega)
  have p1 : IntKind.i64.wrap (da + z + eb) = da + z + eb := IntWalk.i64_in _ (by omega)
  have p2 : IntKind.i64.wrap (db + z) = db + z := IntWalk.i64_in _ (by omega)
  have p3 : IntKind.i64.wrap (db + z + ea) = db + z + ea := IntWalk.i64_in _ (by omega)
  have HG := Lib.hid h; have HA := Lib.hid ha; have HB := Lib.hid hb; have HX := Lib.hid hx; have HY := Lib.hid hy
  clear hvm hvc hl h hU ha hb hx hy
  obtain ⟨d, hd⟩ : ∃ d, distL n ls a = d := ⟨_, rfl⟩
  obtain ⟨e, he⟩ : ∃ d, distL n ls b = d := ⟨_, rfl⟩
  have hdl : d.length = n.toNat := by rw [← hd]; exact distL_len n ls a
  have hel : e.length = n.toNat := by rw [← he]; exact distL_len n ls b
  have HD := Lib.hid hd; have HE := Lib.hid he
  have HDL := Lib.hid hdl; have HEL := Lib.hid hel
  have i1 : b < (d.length:Int) := by omega
  have i2 : x < (d.length:Int) := by omega
  have i3 : y < (d.length:Int) := by omega
  have i4 : x < (e.length:Int) := by omega
  have i5 : y < (e.length:Int) := by omega
  obtain ⟨hb0, hb1⟩ := hbi
  obtain ⟨hx0, hx1⟩ := hxi
  obtain ⟨hy0, hy1⟩ := hyi
  clear hd he hdl hel
  go_enter Try.func61, Try.ntmps61
  go_wp2_with fail
  have A0 := box_new w #[.int .i64 n, .slice (some ⟨vb, voff, none⟩) vm vcap] 25
  have BW0 : Below w.heap.size w (w.alloc (.cells #[.int .i64 n, .slice (some ⟨vb, voff, none⟩) vm vcap] 25)) := (by with_reducible (repeat (first | (refine below_drewN ?_ _) | (refine Below.drew ?_) | (refine below_alloc ?_ (by first | omega | (simp; done) | (simp; omega)) _) | (refine Below.setCell ?_ (by first | omega | (simp; done) | (simp; omega)) _) | exact Below.refl _ _ | assumption | (refine below_call ?_ (by first | omega | (simp; done) | (simp; omega)) (by assumption)))))
  obtain ⟨W, hW⟩ : ∃ W, w.alloc (.cells #[.int .i64 n, .slice (some ⟨vb, voff, none⟩) vm vcap] 25) = W := ⟨_, rfl⟩
  rw [hW] at A0 BW0 ⊢
  have D0 := Lib.hid d0; have D1 := Lib.hid d1; have D2 := Lib.hid d2
  have e0 := cell_below BW0.drew d0 hbd
  have e1 := cell_below BW0.drew d1 hbd
  have e2 := cell_below BW0.drew d2 hbd
  have G := Lib.hid A0.drew
  obtain ⟨G_0, G_1, G_2, G_3, G_4⟩ := box2 A0.drew
  have BW := Lib.hid BW0.drew
  clear hW A0 BW0 d0 d1 d2
  refine wp_region_noPanic ?_
  refine wp_region_held_drew (S := fun w' => w'.cell? ⟨w.heap.size, 0, none⟩ = some (.int .i64 n) ∧ w'.cell? ⟨w.heap.size, 1, none⟩ = some (.slice (some ⟨vb, voff, none⟩) vm vcap) ∧ w'.cell? ⟨vb, voff + k * 3, none⟩ = some (.int .i64 x) ∧ w'.cell? ⟨vb, voff + k * 3 + 1, none⟩ = some (.int .i64 y) ∧ w'.cell? ⟨vb, voff + k * 3 + 2, none⟩ = some (.int .i64 z)) (by kernel_rfl) (by ((try dsimp only); (first | go_keep | exact ⟨G_0, G_1, e0, e1, e2⟩))) (fun hHeld => ?_)
  obtain ⟨X, hX⟩ : ∃ X, W.drew = X := ⟨_, rfl⟩
  rw [hX] at G G_0 G_1 G_2 G_3 G_4 BW e0 e1 e2 hHeld ⊢
  clear hX
  refine wpAnyH_take (i := 0) (oi := _) (v := ?_) rfl (by kernel_rfl) (by kernel_rfl) (by kernel_rfl) (fun _ _ _ h => h) (Or.inl ⟨by rfl, ?_⟩) (by assumption) ?_
  rotate_left
  focus (intro w hSw; (try dsimp only at hSw); go_simp; try (with_reducible rfl))
  try simp only [List.getElem_toArray, List.getElem_cons_zero, List.getElem_cons_succ, Act.put, List.setIfInBounds_toArray, List.set_cons_zero, List.set_cons_succ]
  refine wpAnyH_take (i := 1) (oi := _) (v := ?_) rfl (by kernel_rfl) (by kernel_rfl) (by kernel_rfl) (fun _ _ _ h => h) (Or.inl ⟨by rfl, ?_⟩) (by assumption) ?_
  rotate_left
  focus (intro w hSw; (try dsimp only at hSw); go_simp; try (with_reducible rfl))
  try simp only [List.getElem_toArray, List.getElem_cons_zero, List.getElem_cons_succ, Act.put, List.setIfInBounds_toArray, List.set_cons_zero, List.set_cons_succ]
  refine wpAnyH_take (i := 3) (oi := _) (v := ?_) rfl (by kernel_rfl) (by kernel_rfl) (by kernel_rfl) (fun _ _ _ h => h) (Or.inl ⟨by rfl, ?_⟩) (by assumption) ?_
  rotate_left
  focus (intro w hSw; (try dsimp only at hSw); go_simp; try (with_reducible rfl))
  try simp only [List.getElem_toArray, List.getElem_cons_zero, List.getElem_cons_succ, Act.put, List.setIfInBounds_toArray, List.set_cons_zero, List.set_cons_succ]
  refine wpAnyH_take (i := 4) (oi := _) (v := ?_) rfl (by kernel_rfl) (by kernel_rfl) (by kernel_rfl) (fun _ _ _ h => h) (Or.inl ⟨by rfl, ?_⟩) (by assumption) ?_
  rotate_left
  focus (intro w hSw; (try dsimp only at hSw); go_simp; try (with_reducible rfl))
  try simp only [List.getElem_toArray, List.getElem_cons_zero, List.getElem_cons_succ, Act.put, List.setIfInBounds_toArray, List.set_cons_zero, List.set_cons_succ]
  refine wpAnyH_take (i := 6) (oi := _) (v := ?_) rfl (by kernel_rfl) (by kernel_rfl) (by kernel_rfl) (fun _ _ _ h => h) (Or.inl ⟨by rfl, ?_⟩) (by assumption) ?_
  rotate_left
  focus (intro w hSw; (try dsimp only at hSw); go_simp; try (with_reducible rfl))
  try simp only [List.getElem_toArray, List.getElem_cons_zero, List.getElem_cons_succ, Act.put, List.setIfInBounds_toArray, List.set_cons_zero, List.set_cons_succ]
  refine wpAnyH_take (i := 7) (oi := _) (v := ?_) rfl (by kernel_rfl) (by kernel_rfl) (by kernel_rfl) (fun _ _ _ h => h) (Or.inl ⟨by rfl, ?_⟩) (by assumption) ?_
  rotate_left
  focus (intro w hSw; (try dsimp only at hSw); go_simp; try (with_reducible rfl))
  try simp only [List.getElem_toArray, List.getElem_cons_zero, List.getElem_cons_succ, Act.put, List.setIfInBounds_toArray, List.set_cons_zero, List.set_cons_succ]
  refine wpAnyH_take (i := 8) (oi := _) (v := ?_) rfl (by kernel_rfl) (by kernel_rfl) (by kernel_rfl) (fun _ _ _ h => h) (Or.inl ⟨by rfl, ?_⟩) (by assumption) ?_
  rotate_left
  focus (intro w hSw; (try dsimp only at hSw); go_simp; try (with_reducible rfl))
  try simp only [List.getElem_toArray, List.getElem_cons_zero, List.getElem_cons_succ, Act.put, List.setIfInBounds_toArray, List.set_cons_zero, List.set_cons_succ]
  refine wpAnyH_take (i := 9) (oi := _) (v := ?_) rfl (by kernel_rfl) (by kernel_rfl) (by kernel_rfl) (fun _ _ _ h => h) (Or.inl ⟨by rfl, ?_⟩) (by assumption) ?_
  rotate_left
  focus (intro w hSw; (try dsimp only at hSw); go_simp; try (with_reducible rfl))
  try simp only [List.getElem_toArray, List.getElem_cons_zero, List.getElem_cons_succ, Act.put, List.setIfInBounds_toArray, List.set_cons_zero, List.set_cons_succ]
  refine wpAnyH_take (i := 10) (oi := _) (v := ?_) rfl (by kernel_rfl) (by kernel_rfl) (by kernel_rfl) (fun _ _ _ h => h) (Or.inl ⟨by rfl, ?_⟩) (by assumption) ?_
  rotate_left
  focus (intro w hSw; (try dsimp only at hSw); go_simp; try (with_reducible rfl))
  try simp only [List.getElem_toArray, List.getElem_cons_zero, List.getElem_cons_succ, Act.put, List.setIfInBounds_toArray, List.set_cons_zero, List.set_cons_succ]
  refine wpAnyH_ready (rs := [2, 11]) (by kernel_rfl) (by simp) ?_
  refine AllReadyH.cons (o := _) rfl (fun K hK => ?_) (AllReadyH.cons (o := _) rfl (fun K hK => ?_) AllReadyH.nil)
  go_simp
  refine (iDist n ls a _ _ (HV.out.below BW.out (Nat.le_refl _)) HG.out HA.out).mono ?_
  rintro e9 X2 ⟨v1, rfl, hO, hb⟩
  rw [HD.out] at hO
  have O1 := Lib.hid (hO.mono BW.out.size (Nat.le_refl _)).1
  obtain ⟨g1, c1, rfl, hlo9⟩ := own_pos hO.1 (by omega)
  clear hlo9
  replace BW := Lib.hid (BW.out.trans (hb.mono BW.out.size))
  replace G := Lib.hid (G.out.below hb G.out.lt)
  clear hb hO
  clear G_0 G_1 G_2 G_3 G_4 e0 e1 e2
  obtain ⟨G_0, G_1, G_2, G_3, G_4⟩ := box2 G.out
  have e0 := cell_below BW.out D0.out hbd
  have e1 := cell_below BW.out D1.out hbd
  have e2 := cell_below BW.out D2.out hbd
  refine hK.out _ _ (by ((try dsimp only); (first | go_keep | exact ⟨G_0, G_1, e0, e1, e2⟩))) (fun hHeld2 => ?_)
  clear hK K hHeld
  have hHeld := hHeld2
  clear hHeld2
  try simp only [List.getElem_toArray, List.getElem_cons_zero, List.getElem_cons_succ, Act.put, List.setIfInBounds_toArray, List.set_cons_zero, List.set_cons_succ]
  clear X
  obtain ⟨X, rfl⟩ : ∃ X, X = X2 := ⟨_, rfl⟩
  refine wpAnyH_ready (rs := [5, 11]) (by kernel_rfl) (by simp) ?_
  refine AllReadyH.cons (o := _) rfl (fun K hK => ?_) (AllReadyH.cons (o := _) rfl (fun K hK => ?_) AllReadyH.nil)
  go_simp
  refine (iDist n ls b _ _ (HV.out.below BW.out (Nat.le_refl _)) HG.out HB.out).mono ?_
  rintro e9 X2 ⟨v1, rfl, hO, hb⟩
  rw [HE.out] at hO
  have O2 := Lib.hid (hO.mono BW.out.size (Nat.le_refl _)).1
  obtain ⟨g2, c2, rfl, hlo9⟩ := own_pos hO.1 (by omega)
  clear hlo9
  replace BW := Lib.hid (BW.out.trans (hb.mono BW.out.size))
  replace G := Lib.hid (G.out.below hb G.out.lt)
  replace O1 := Lib.hid ((OwnR.of O1.out).below hb (Nat.le_refl _)).1
  clear hb hO
  clear G_0 G_1 G_2 G_3 G_4 e0 e1 e2
  obtain ⟨G_0, G_1, G_2, G_3, G_4⟩ := box2 G.out
  have e0 := cell_below BW.out D0.out hbd
  have e1 := cell_below BW.out D1.out hbd
  have e2 := cell_below BW.out D2.out hbd
  refine hK.out _ _ (by ((try dsimp only); (first | go_keep | exact ⟨G_0, G_1, e0, e1, e2⟩))) (fun hHeld2 => ?_)
  clear hK K hHeld
  have hHeld := hHeld2
  clear hHeld2
  try simp only [List.getElem_toArray, List.getElem_cons_zero, List.getElem_cons_succ, Act.put, List.setIfInBounds_toArray, List.set_cons_zero, List.set_cons_succ]
  clear X
  obtain ⟨X, rfl⟩ : ∃ X, X = X2 := ⟨_, rfl⟩
  refine wpAnyH_ready (rs := [11]) (by kernel_rfl) (by simp) ?_
  refine AllReadyH.cons (o := _) rfl (fun K hK => ?_) AllReadyH.nil
  go_simp
  have L := Lib.hid (box_new X #[.int .i64 0, .int .i64 0, .int .i64 0] 38)
  replace BW := Lib.hid (BW.out.alloc BW.out.size (.cells #[.int .i64 0, .int .i64 0, .int .i64 0] 38))
  replace G := Lib.hid (G.out.alloc (.cells #[.int .i64 0, .int .i64 0, .int .i64 0] 38))
  replace O1 := Lib.hid (O1.out.alloc (.cells #[.int .i64 0, .int .i64 0, .int .i64 0] 38))
  replace O2 := Lib.hid (O2.out.alloc (.cells #[.int .i64 0, .int .i64 0, .int .i64 0] 38))
  have HBL : Hid (w.heap.size < X.heap.size) := Lib.hid G_4
  obtain ⟨B, hB⟩ : ∃ B, X.heap.size = B := ⟨_, rfl⟩
  rw [hB] at L HBL ⊢
  clear hB
  obtain ⟨X2, hX⟩ : ∃ X2, X.alloc (.cells #[.int .i64 0, .int .i64 0, .int .i64 0] 38) = X2 := ⟨_, rfl⟩
  rw [hX] at BW G L O1 O2 ⊢
  clear hX
  clear G_0 G_1 G_2 G_3 G_4 e0 e1 e2
  obtain ⟨G_0, G_1, G_2, G_3, G_4⟩ := box2 G.out
  have e0 := cell_below BW.out D0.out hbd
  have e1 := cell_below BW.out D1.out hbd
  have e2 := cell_below BW.out D2.out hbd
  refine hK.out _ _ (by ((try dsimp only); (first | go_keep | exact ⟨G_0, G_1, e0, e1, e2⟩))) (fun hHeld2 => ?_)
  clear hK K hHeld
  have hHeld := hHeld2
  clear hHeld2
  try simp only [List.getElem_toArray, List.getElem_cons_zero, List.getElem_cons_succ, Act.put, List.setIfInBounds_toArray, List.set_cons_zero, List.set_cons_succ]
  clear X
  obtain ⟨X, rfl⟩ : ∃ X, X = X2 := ⟨_, rfl⟩
  have F := And.intro BW.out (And.intro G.out (And.intro O1.out (And.intro O2.out (And.intro L.out HBL.out))))
  clear BW G O1 O2 L HBL G_0 G_1 G_2 G_3 G_4 e0 e1 e2
  revert hHeld
  revert F
  revert X
  revert B
  revert c2
  revert g2
  revert c1
  revert g1
  refine ?KK
  rotate_left
  go_simp
  have L := Lib.hid (box_new X #[.int .i64 0, .int .i64 0, .int .i64 0] 38)
  replace BW := Lib.hid (BW.out.alloc BW.out.size (.cells #[.int .i64 0, .int .i64 0, .int .i64 0] 38))
  replace G := Lib.hid (G.out.alloc (.cells #[.int .i64 0, .int .i64 0, .int .i64 0] 38))
  replace O1 := Lib.hid (O1.out.alloc (.cells #[.int .i64 0, .int .i64 0, .int .i64 0] 38))
  have HBL : Hid (w.heap.size < X.heap.size) := Lib.hid G_4
  obtain ⟨B, hB⟩ : ∃ B, X.heap.size = B := ⟨_, rfl⟩
  rw [hB] at L HBL ⊢
  clear hB
  obtain ⟨X2, hX⟩ : ∃ X2, X.alloc (.cells #[.int .i64 0, .int .i64 0, .int .i64 0] 38) = X2 := ⟨_, rfl⟩
  rw [hX] at BW G L O1 ⊢
  clear hX
  clear G_0 G_1 G_2 G_3 G_4 e0 e1 e2
  obtain ⟨G_0, G_1, G_2, G_3, G_4⟩ := box2 G.out
  have e0 := cell_below BW.out D0.out hbd
  have e1 := cell_below BW.out D1.out hbd
  have e2 := cell_below BW.out D2.out hbd
  refine hK.out _ _ (by ((try dsimp only); (first | go_keep | exact ⟨G_0, G_1, e0, e1, e2⟩))) (fun hHeld2 => ?_)
  clear hK K hHeld
  have hHeld := hHeld2
  clear hHeld2
  try simp only [List.getElem_toArray, List.getElem_cons_zero, List.getElem_cons_succ, Act.put, List.setIfInBounds_toArray, List.set_cons_zero, List.set_cons_succ]
  clear X
  obtain ⟨X, rfl⟩ : ∃ X, X = X2 := ⟨_, rfl⟩
  refine wpAnyH_ready (rs := [5]) (by kernel_rfl) (by simp) ?_
  refine AllReadyH.cons (o := _) rfl (fun K hK => ?_) AllReadyH.nil
  go_simp
  refine (iDist n ls b _ _ (HV.out.below BW.out (Nat.le_refl _)) HG.out HB.out).mono ?_
  rintro e9 X2 ⟨v1, rfl, hO, hb⟩
  rw [HE.out] at hO
  have O2 := Lib.hid (hO.mono BW.out.size (Nat.le_refl _)).1
  obtain ⟨g2, c2, rfl, hlo9⟩ := own_pos hO.1 (by omega)
  clear hlo9
  replace BW := Lib.hid (BW.out.trans (hb.mono BW.out.size))
  replace G := Lib.hid (G.out.below hb G.out.lt)
  replace O1 := Lib.hid ((OwnR.of O1.out).below hb (Nat.le_refl _)).1
  replace L := Lib.hid (L.out.below hb L.out.lt)
  clear hb hO
  clear G_0 G_1 G_2 G_3 G_4 e0 e1 e2
  obtain ⟨G_0, G_1, G_2, G_3, G_4⟩ := box2 G.out
  have e0 := cell_below BW.out D0.out hbd
  have e1 := cell_below BW.out D1.out hbd
  have e2 := cell_below BW.out D2.out hbd
  refine hK.out _ _ (by ((try dsimp only); (first | go_keep | exact ⟨G_0, G_1, e0, e1, e2⟩))) (fun hHeld2 => ?_)
  clear hK K hHeld
  have hHeld := hHeld2
  clear hHeld2
  try simp only [List.getElem_toArray, List.getElem_cons_zero, List.getElem_cons_succ, Act.put, List.setIfInBounds_toArray, List.set_cons_zero, List.set_cons_succ]
  clear X
  obtain ⟨X, rfl⟩ : ∃ X, X = X2 := ⟨_, rfl⟩
  have F := And.intro BW.out (And.intro G.out (And.intro O1.out (And.intro O2.out (And.intro L.out HBL.out))))
  clear BW G O1 O2 L HBL G_0 G_1 G_2 G_3 G_4 e0 e1 e2
  revert hHeld
  revert F
  revert X
  revert B
  revert c2
  revert g2
  revert c1
  revert g1
  refine ?KK
  go_simp
  have L := Lib.hid (box_new X #[.int .i64 0, .int .i64 0, .int .i64 0] 38)
  replace BW := Lib.hid (BW.out.alloc BW.out.size (.cells #[.int .i64 0, .int .i64 0, .int .i64 0] 38))
  replace G := Lib.hid (G.out.alloc (.cells #[.int .i64 0, .int .i64 0, .int .i64 0] 38))
  have HBL : Hid (w.heap.size < X.heap.size) := Lib.hid G_4
  obtain ⟨B, hB⟩ : ∃ B, X.heap.size = B := ⟨_, rfl⟩
  rw [hB] at L HBL ⊢
  clear hB
  obtain ⟨X2, hX⟩ : ∃ X2, X.alloc (.cells #[.int .i64 0, .int .i64 0, .int .i64 0] 38) = X2 := ⟨_, rfl⟩
  rw [hX] at BW G L ⊢
  clear hX
  clear G_0 G_1 G_2 G_3 G_4 e0 e1 e2
  obtain ⟨G_0, G_1, G_2, G_3, G_4⟩ := box2 G.out
  have e0 := cell_below BW.out D0.out hbd
  have e1 := cell_below BW.out D1.out hbd
  have e2 := cell_below BW.out D2.out hbd
  refine hK.out _ _ (by ((try dsimp only); (first | go_keep | exact ⟨G_0, G_1, e0, e1, e2⟩))) (fun hHeld2 => ?_)
  clear hK K hHeld
  have hHeld := hHeld2
  clear hHeld2
  try simp only [List.getElem_toArray, List.getElem_cons_zero, List.getElem_cons_succ, Act.put, List.setIfInBounds_toArray, List.set_cons_zero, List.set_cons_succ]
  clear X
  obtain ⟨X, rfl⟩ : ∃ X, X = X2 := ⟨_, rfl⟩
  refine wpAnyH_ready (rs := [2]) (by kernel_rfl) (by simp) ?_
  refine AllReadyH.cons (o := _) rfl (fun K hK => ?_) AllReadyH.nil
  go_simp
  refine (iDist n ls a _ _ (HV.out.below BW.out (Nat.le_refl _)) HG.out HA.out).mono ?_
  rintro e9 X2 ⟨v1, rfl, hO, hb⟩
  rw [HD.out] at hO
  have O1 := Lib.hid (hO.mono BW.out.size (Nat.le_refl _)).1
  obtain ⟨g1, c1, rfl, hlo9⟩ := own_pos hO.1 (by omega)
  clear hlo9
  replace BW := Lib.hid (BW.out.trans (hb.mono BW.out.size))
  replace G := Lib.hid (G.out.below hb G.out.lt)
  replace L := Lib.hid (L.out.below hb L.out.lt)
  clear hb hO
  clear G_0 G_1 G_2 G_3 G_4 e0 e1 e2
  obtain ⟨G_0, G_1, G_2, G_3, G_4⟩ := box2 G.out
  have e0 := cell_below BW.out D0.out hbd
  have e1 := cell_below BW.out D1.out hbd
  have e2 := cell_below BW.out D2.out hbd
  refine hK.out _ _ (by ((try dsimp only); (first | go_keep | exact ⟨G_0, G_1, e0, e1, e2⟩))) (fun hHeld2 => ?_)
  clear hK K hHeld
  have hHeld := hHeld2
  clear hHeld2
  try simp only [List.getElem_toArray, List.getElem_cons_zero, List.getElem_cons_succ, Act.put, List.setIfInBounds_toArray, List.set_cons_zero, List.set_cons_succ]
  clear X
  obtain ⟨X, rfl⟩ : ∃ X, X = X2 := ⟨_, rfl⟩
  refine wpAnyH_ready (rs := [5]) (by kernel_rfl) (by simp) ?_
  refine AllReadyH.cons (o := _) rfl (fun K hK => ?_) AllReadyH.nil
  go_simp
  refine (iDist n ls b _ _ (HV.out.below BW.out (Nat.le_refl _)) HG.out HB.out).mono ?_
  rintro e9 X2 ⟨v1, rfl, hO, hb⟩
  rw [HE.out] at hO
  have O2 := Lib.hid (hO.mono BW.out.size (Nat.le_refl _)).1
  obtain ⟨g2, c2, rfl, hlo9⟩ := own_pos hO.1 (by omega)
  clear hlo9
  replace BW := Lib.hid (BW.out.trans (hb.mono BW.out.size))
  replace G := Lib.hid (G.out.below hb G.out.lt)
  replace O1 := Lib.hid ((OwnR.of O1.out).below hb (Nat.le_refl _)).1
  replace L := Lib.hid (L.out.below hb L.out.lt)
  clear hb hO
  clear G_0 G_1 G_2 G_3 G_4 e0 e1 e2
  obtain ⟨G_0, G_1, G_2, G_3, G_4⟩ := box2 G.out
  have e0 := cell_below BW.out D0.out hbd
  have e1 := cell_below BW.out D1.out hbd
  have e2 := cell_below BW.out D2.out hbd
  refine hK.out _ _ (by ((try dsimp only); (first | go_keep | exact ⟨G_0, G_1, e0, e1, e2⟩))) (fun hHeld2 => ?_)
  clear hK K hHeld
  have hHeld := hHeld2
  clear hHeld2
  try simp only [List.getElem_toArray, List.getElem_cons_zero, List.getElem_cons_succ, Act.put, List.setIfInBounds_toArray, List.set_cons_zero, List.set_cons_succ]
  clear X
  obtain ⟨X, rfl⟩ : ∃ X, X = X2 := ⟨_, rfl⟩
  have F := And.intro BW.out (And.intro G.out (And.intro O1.out (And.intro O2.out (And.intro L.out HBL.out))))
  clear BW G O1 O2 L HBL G_0 G_1 G_2 G_3 G_4 e0 e1 e2
  revert hHeld
  revert F
  revert X
  revert B
  revert c2
  revert g2
  revert c1
  revert g1
  refine ?KK
  intro g1 c1 g2 c2 B X F hHeld
  obtain ⟨F1, F2, F3, F4, F5, hBl⟩ := F
  have BW := Lib.hid F1; have G := Lib.hid F2; have O1 := Lib.hid F3; have O2 := Lib.hid F4; have L := Lib.hid F5
  clear F1 F2 F3 F4 F5
  refine wpAnyH_take (i := 12) (oi := _) (v := ?_) rfl (by kernel_rfl) (by kernel_rfl) (by kernel_rfl) (fun _ _ _ h => h) (Or.inl ⟨by rfl, ?_⟩) (by assumption) ?_
  rotate_left
  focus (intro w hSw; (try dsimp only at hSw); go_simp; try (with_reducible rfl))
  try simp only [List.getElem_toArray, List.getElem_cons_zero, List.getElem_cons_succ, Act.put, List.setIfInBounds_toArray, List.set_cons_zero, List.set_cons_succ]
  refine wpAnyH_take (i := 13) (oi := _) (v := ?_) rfl (by kernel_rfl) (by kernel_rfl) (by kernel_rfl) (fun _ _ _ h => h) (Or.inl ⟨by rfl, ?_⟩) (by assumption) ?_
  rotate_left
  focus (intro w hSw; (try dsimp only at hSw); go_simp; try (with_reducible rfl))
  try simp only [List.getElem_toArray, List.getElem_cons_zero, List.getElem_cons_succ, Act.put, List.setIfInBounds_toArray, List.set_cons_zero, List.set_cons_succ]
  have n1 := box_own_ne L.out O1.out (by decide)
  have n2 := box_own_ne L.out O2.out (by decide)
  replace n1 : ¬ g1 = B := fun e => n1 (congrArg some e)
  replace n2 : ¬ g2 = B := fun e => n2 (congrArg some e)
  obtain ⟨G_0, G_1, G_2, G_3, G_4⟩ := box2 G.out
  have e0 := cell_below BW.out D0.out hbd
  have e1 := cell_below BW.out D1.out hbd
  have e2 := cell_below BW.out D2.out hbd
  obtain ⟨L_0, L_1, L_2, L_3, L_4, L_5, L_6⟩ := box3 L.out
  have hbB : ¬ vb = B := by omega
  have hbw : ¬ w.heap.size = B := by omega
  refine wpAnyH_ready (rs := [14]) (by kernel_rfl) (by simp) ?_
  refine AllReadyH.cons (o := _) rfl (fun K hK => ?_) AllReadyH.nil
  go_simp
  have hBs : w.heap.size ≤ B := by omega
  have BW2 : Below w.heap.size w (((X.setCell ⟨B, 0, none⟩ (.int .i64 x)).setCell ⟨B, 1, none⟩ (.int .i64 y)).setCell ⟨B, 2, none⟩ (.int .i64 z)) := by have hB := BW.out; exact (by with_reducible (repeat (first | (refine below_drewN ?_ _) | (refine Below.drew ?_) | (refine below_alloc ?_ (by first | omega | (simp; done) | (simp; omega)) _) | (refine Below.setCell ?_ (by first | omega | (simp; done) | (simp; omega)) _) | exact Below.refl _ _ | assumption | (refine below_call ?_ (by first | omega | (simp; done) | (simp; omega)) (by assumption)))))
  have G2 := ((G.out.setOther (a := ⟨B, 0, none⟩) (by simp; omega) (.int .i64 x)).setOther (a := ⟨B, 1, none⟩) (by simp; omega) (.int .i64 y)).setOther (a := ⟨B, 2, none⟩) (by simp; omega) (.int .i64 z)
  have L2 := ((L.out.set (o := 0) (.int .i64 x)).set (o := 1) (.int .i64 y)).set (o := 2) (.int .i64 z)
  replace L2 : Box (((X.setCell ⟨B, 0, none⟩ (.int .i64 x)).setCell ⟨B, 1, none⟩ (.int .i64 y)).setCell ⟨B, 2, none⟩ (.int .i64 z)) B #[.int .i64 x, .int .i64 y, .int .i64 z] 38 := L2
  have P1 := own_setOther (own_setOther (own_setOther O1.out (a := ⟨B, 0, none⟩) (by simpa [Value.ownBlock] using n1) (.int .i64 x)) (a := ⟨B, 1, none⟩) (by simpa [Value.ownBlock] using n1) (.int .i64 y)) (a := ⟨B, 2, none⟩) (by simpa [Value.ownBlock] using n1) (.int .i64 z)
  have P2 := own_setOther (own_setOther (own_setOther O2.out (a := ⟨B, 0, none⟩) (by simpa [Value.ownBlock] using n2) (.int .i64 x)) (a := ⟨B, 1, none⟩) (by simpa [Value.ownBlock] using n2) (.int .i64 y)) (a := ⟨B, 2, none⟩) (by simpa [Value.ownBlock] using n2) (.int .i64 z)
  obtain ⟨Y, hY⟩ : ∃ Y, ((X.setCell ⟨B, 0, none⟩ (.int .i64 x)).setCell ⟨B, 1, none⟩ (.int .i64 y)).setCell ⟨B, 2, none⟩ (.int .i64 z) = Y := ⟨_, rfl⟩
  rw [hY] at BW2 G2 L2 P1 P2 ⊢
  clear hY BW G L O1 O2 G_0 G_1 G_2 G_3 G_4 e0 e1 e2 L_0 L_1 L_2 L_3 L_4 L_5 L_6
  have BW := Lib.hid BW2; have G := Lib.hid G2; have O1 := Lib.hid (OwnR.of P1); have O2 := Lib.hid (OwnR.of P2)
  clear BW2 P1 P2
  obtain ⟨G_0, G_1, G_2, G_3, G_4⟩ := box2 G2
  have e0 := cell_below BW.out D0.out hbd
  have e1 := cell_below BW.out D1.out hbd
  have e2 := cell_below BW.out D2.out hbd
  obtain ⟨L_0, L_1, L_2, L_3, L_4, L_5, L_6⟩ := box3 L2
  clear G2 L2
  refine hK.out _ _ (by ((try dsimp only); (first | go_keep | exact ⟨G_0, G_1, e0, e1, e2⟩))) (fun hHeld2 => ?_)
  clear hK K hHeld
  have hHeld := hHeld2
  clear hHeld2
  try simp only [List.getElem_toArray, List.getElem_cons_zero, List.getElem_cons_succ, Act.put, List.setIfInBounds_toArray, List.set_cons_zero, List.set_cons_succ]
  clear X
  refine wpAnyH_done (by kernel_rfl) ?_ _
  refine NoPanic.normal ?_
  clear hHeld e0 e1 e2
  have NA : ∀ {u}, nd n.toNat u → nd d.length u := fun h => by rw [HDL.out]; exact h
  have NE : ∀ {u}, nd n.toNat u → nd e.length u := fun h => by rw [HEL.out]; exact h
  have r0 := (row_at O1.out.1 rfl (NA HB.out)).1
  have r1 := (row_at O1.out.1 rfl (NA HX.out)).1
  have r2 := (row_at O1.out.1 rfl (NA HY.out)).1
  have r3 := (row_at O2.out.1 rfl (NE HX.out)).1
  have r4 := (row_at O2.out.1 rfl (NE HY.out)).1
  rw [show atD d b = D by rw [← HD.out]; exact HU.out.d] at r0
  rw [show atD d x = da by rw [← HD.out]; exact HU.out.ax] at r1
  rw [show atD d y = db by rw [← HD.out]; exact HU.out.ay] at r2
  rw [show atD e x = ea by rw [← HE.out]; exact HU.out.bx] at r3
  rw [show atD e y = eb by rw [← HE.out]; exact HU.out.by_] at r4
  have l1 := cell_lt r0
  have l2 := cell_lt r3
  clear NA NE
  by_cases h1 : D < 0
  · have t1 : decide (D < 0) = true := by simpa using h1
    go_wp2_with fail
    go_ret
    have hB := BW.out
    exact ⟨ret_bool (HU.out.no (.inl h1)).symm, (by with_reducible (repeat (first | (refine below_drewN ?_ _) | (refine Below.drew ?_) | (refine below_alloc ?_ (by first | omega | (simp; done) | (simp; omega)) _) | (refine Below.setCell ?_ (by first | omega | (simp; done) | (simp; omega)) _) | exact Below.refl _ _ | assumption | (refine below_call ?_ (by first | omega | (simp; done) | (simp; omega)) (by assumption)))))⟩
  have t1 : decide (D < 0) = false := by simpa using h1
  by_cases h2 : da < 0
  · have t2 : decide (da < 0) = true := by simpa using h2
    go_wp2_with fail
    go_ret
    have hB := BW.out
    exact ⟨ret_bool (HU.out.no (.inr h2)).symm, (by with_reducible (repeat (first | (refine below_drewN ?_ _) | (refine Below.drew ?_) | (refine below_alloc ?_ (by first | omega | (simp; done) | (simp; omega)) _) | (refine Below.setCell ?_ (by first | omega | (simp; done) | (simp; omega)) _) | exact Below.refl _ _ | assumption | (refine below_call ?_ (by first | omega | (simp; done) | (simp; omega)) (by assumption)))))⟩
  have t2 : decide (da < 0) = false := by simpa using h2
  rcases Bool.eq_false_or_eq_true (da + z + eb == D) with t3 | t3
  · go_wp2_with fail
    go_quiet (fail)
    go_wp2_with fail
    go_ret
    have hB := BW.out
    exact ⟨ret_bool (by rw [HU.out.yes (by omega) (by omega), t3]; rfl), (by with_reducible (repeat (first | (refine below_drewN ?_ _) | (refine Below.drew ?_) | (refine below_alloc ?_ (by first | omega | (simp; done) | (simp; omega)) _) | (refine Below.setCell ?_ (by first | omega | (simp; done) | (simp; omega)) _) | exact Below.refl _ _ | assumption | (refine below_call ?_ (by first | omega | (simp; done) | (simp; omega)) (by assumption)))))⟩
  · go_wp2_with fail
    go_quiet (fail)
    go_wp2_with fail
    go_ret
    have hB := BW.out
    exact ⟨ret_bool (by rw [HU.out.yes (by omega) (by omega), t3]; rfl), (by with_reducible (repeat (first | (refine below_drewN ?_ _) | (refine Below.drew ?_) | (refine below_alloc ?_ (by first | omega | (simp; done) | (simp; omega)) _) | (refine Below.setCell ?_ (by first | omega | (simp; done) | (simp; omega)) _) | exact Below.refl _ _ | assumption | (refine below_call ?_ (by first | omega | (simp; done) | (simp; omega)) (by assumption)))))⟩
end Go.Proofs.Ytkegainegkdgpaa
