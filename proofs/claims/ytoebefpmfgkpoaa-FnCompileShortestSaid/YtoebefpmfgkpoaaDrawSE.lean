/- The draws of a graph, a node and labels: DrawStackEnd, DrawStackPath, DrawStackCost, DrawStackUnique. -/
import Derived.Test.YtoebefpmfgkpoaaDrawGS
import Derived.Test.YtoebefpmfgkpoaaDrawSt
namespace Go.Proofs.Ytoebefpmfgkpoaa
set_option linter.unusedSimpArgs false
set_option linter.unusedVariables false
open Go.RowKit

theorem PairsAt.only {w w' : World} {v : Value} {ls : List (Int × Int)} {B : Nat} (h : PairsAt w v ls) (hg : w.grownBy w' (some B)) (hB : v.ownBlock ≠ some B) : PairsAt w' v ls := by
  obtain ⟨a, cap, b, off, rfl, h1, h2, h3, h4⟩ := h
  refine ⟨a, cap, b, off, rfl, h1, h2, h3, fun k x y hk => ?_⟩
  obtain ⟨c0, c1⟩ := h4 k x y hk
  have hl := (List.getElem?_eq_some_iff.1 hk).1
  have e := h3 (by omega)
  subst e
  have hne : (some b : Option Nat) ≠ some B := fun e => hB (by simpa [Value.ownBlock] using e)
  have hk : w'.heap[b]? = w.heap[b]? := hg.block b (cell_lt c0) (fun e => hne e)
  exact ⟨(World.cell?_of_block (w := w) hk).trans c0, (World.cell?_of_block (w := w) hk).trans c1⟩
/-- Behind the store of a struct of two cells. -/
theorem only_set2 (w : World) (R : Nat) (x y : Value) : w.grownBy ((w.setCell ⟨R, 0, none⟩ x).setCell ⟨R, 1, none⟩ y) (some R) := only_setCell (only_setCell (only_refl w (some R)) (.inl rfl) x) (.inl rfl) y
/-- A graph, a node and a few labels in new memory. -/
structure SEPost (w : World) (e : Ending) (w' : World) : Prop where
  ex : ∃ n u ls a x s, e = .returned (.tuple #[.agg #[.int .i64 n, u], .int .i64 a, x]) ∧ ls.length ≤ 15 ∧ TriplesAt w' u ls ∧ s.length ≤ 9 ∧ PairsAt w' x s ∧ (∀ g, u.ownBlock = some g → w.heap.size ≤ g) ∧ ∀ g, x.ownBlock = some g → w.heap.size ≤ g
  below : Below w.heap.size w w'
set_option maxRecDepth 100000 in
set_option maxHeartbeats 1000000 in
theorem drawSE (v : Value) (w : World) (h : CodeAt w v) : Calls Try.prog 61 #[v] w (SEPost w) := by
  go_enter Try.func61, Try.ntmps61
  go_wp2_with fail
  have R0 := box_new w #[.int .i64 0, .slice none 0 0] 25
  have B0 : Below w.heap.size w (w.alloc (.cells #[.int .i64 0, .slice none 0 0] 25)) := (by with_reducible (repeat (first | (refine below_drewN ?_ _) | (refine Below.drew ?_) | (refine below_alloc ?_ (by first | omega | (simp; done) | (simp; omega)) _) | (refine Below.setCell ?_ (by first | omega | (simp; done) | (simp; omega)) _) | exact Below.refl _ _ | assumption | (refine below_call ?_ (by first | omega | (simp; done) | (simp; omega)) (by assumption)))))
  have hC := codeAt_alloc h (.cells #[.int .i64 0, .slice none 0 0] 25)
  obtain ⟨W0, hW0⟩ : ∃ W0, w.alloc (.cells #[.int .i64 0, .slice none 0 0] 25) = W0 := ⟨_, rfl⟩
  rw [hW0] at R0 B0 hC ⊢
  have HC := Lib.hid hC
  clear hW0 hC h
  refine (open_any v W0 W0.heap.size rfl HC.out).mono ?_
  rintro e w1 ⟨rfl, hR1, hb1, hlt1⟩
  obtain ⟨B, hB⟩ : ∃ B, W0.heap.size = B := ⟨_, rfl⟩
  have B1 := Lib.hid (B0.trans (hb1.mono B0.size))
  have R1 := Lib.hid (R0.below hb1 R0.lt)
  have hwB : w.heap.size < B := by have := R0.lt; omega
  rw [hB] at hR1 hlt1 ⊢
  have HR1 := Lib.hid hR1
  clear hb1 hB hR1 R0 B0 HC
  go_wp2_with fail
  refine (drawSpoilt B 0 _ HR1.out (by omega)).mono ?_
  rintro e w2 ⟨n, u, ls, rfl, hls, hO, hR2, hG2⟩
  have hlo : ∀ g, u.ownBlock = some g → B < g := fun g hg => by have := (hO.lt g hg).1; omega
  have hne : u.ownBlock ≠ some B := fun e => by have := hlo _ e; omega
  have HT := Lib.hid (hO.mono (show B + 1 ≤ w1.heap.size by omega) (Nat.le_refl _)).1
  obtain ⟨ua, uc, rfl⟩ := own_slice hO.1
  have HNE := Lib.hid hne
  have B2 := Lib.hid (below_only B1.out (Nat.le_refl _) (by omega) hG2)
  have R2 := Lib.hid (R1.out.only hG2 (by omega))
  have HR2 := Lib.hid hR2
  have hs2 := hG2.size
  clear hlo hne hO hR2 hG2 HR1 B1 R1
  go_wp2_with fail
  have G2 := box_new w2 #[.int .i64 n, .slice ua ls.length uc] 25
  have hGB : w2.heap.size ≠ B := by omega
  have hwG : w.heap.size < w2.heap.size := by omega
  have HT2 := Lib.hid (HT.out.alloc (.cells #[.int .i64 n, .slice ua ls.length uc] 25))
  have B2' := Lib.hid (B2.out.alloc B2.out.size (.cells #[.int .i64 n, .slice ua ls.length uc] 25))
  have R2' := Lib.hid (R2.out.alloc (.cells #[.int .i64 n, .slice ua ls.length uc] 25))
  have HR2' := Lib.hid (rdLe_alloc HR2.out (.cells #[.int .i64 n, .slice ua ls.length uc] 25))
  obtain ⟨G, hG⟩ : ∃ G, w2.heap.size = G := ⟨_, rfl⟩
  obtain ⟨X, hX⟩ : ∃ X, w2.alloc (.cells #[.int .i64 n, .slice ua ls.length uc] 25) = X := ⟨_, rfl⟩
  rw [hX] at G2 HT2 B2' R2' HR2' ⊢
  rw [hG] at G2 hGB hwG ⊢
  clear hX hG HT B2 R2 HR2
  refine (drawNode B (0 + 410) n _ _ ⟨_, _, _, rfl⟩ HR2'.out (by omega)).mono ?_
  rintro e w3 ⟨a, rfl, hR3, hG3⟩
  have HT3 := Lib.hid (own_only HT2.out hG3 (by omega))
  have B3 := Lib.hid (below_only B2'.out (Nat.le_refl _) (by omega) hG3)
  have R3 := Lib.hid (R2'.out.only hG3 (by omega))
  have G3 := Lib.hid (G2.only hG3 (by omega))
  have HR3 := Lib.hid hR3
  have hs3 := hG3.size
  clear hR3 hG3 HR2' B2' HT2 R2' G2
  obtain ⟨b0, b1, f0, f1, hb0⟩ := box2 G3.out
  go_wp2_with fail
  have HT3' := Lib.hid (own_drew HT3.out)
  have B3' := Lib.hid B3.out.drew
  have R3' := Lib.hid R3.out.drew
  have G3' := Lib.hid G3.out.drew
  have HR3' := Lib.hid (rdLe_drew HR3.out)
  clear HT3 B3 R3 G3 HR3
  refine wp_region_noPanic ?_
  refine wp_region_held_drew (S := (fun w' => w'.cell? ⟨G, 0, none⟩ = some (.int .i64 n) ∧ w'.cell? ⟨G, 1, none⟩ = some (.slice ua ls.length uc))) (by kernel_rfl) (by ((try dsimp only); (first | go_keep | exact ⟨b0, b1⟩))) (fun hHeld => ?_)
  refine wpAnyH_take (i := 0) (oi := _) (v := ?_) rfl (by kernel_rfl) (by kernel_rfl) (by kernel_rfl) (fun _ _ _ h => h) (Or.inl ⟨by rfl, ?_⟩) (by assumption) ?_
  rotate_left
  focus (intro w hSw; (try dsimp only at hSw); go_simp; try (with_reducible rfl))
  try simp only [List.getElem_toArray, List.getElem_cons_zero, List.getElem_cons_succ, Act.put, List.setIfInBounds_toArray, List.set_cons_zero, List.set_cons_succ]
  refine wpAnyH_take (i := 1) (oi := _) (v := ?_) rfl (by kernel_rfl) (by kernel_rfl) (by kernel_rfl) (fun _ _ _ h => h) (Or.inl ⟨by rfl, ?_⟩) (by assumption) ?_
  rotate_left
  focus (intro w hSw; (try dsimp only at hSw); go_simp; try (with_reducible rfl))
  try simp only [List.getElem_toArray, List.getElem_cons_zero, List.getElem_cons_succ, Act.put, List.setIfInBounds_toArray, List.set_cons_zero, List.set_cons_succ]
  refine wpAnyH_take (i := 2) (oi := _) (v := ?_) rfl (by kernel_rfl) (by kernel_rfl) (by kernel_rfl) (fun _ _ _ h => h) (Or.inl ⟨by rfl, ?_⟩) (by assumption) ?_
  rotate_left
  focus (intro w hSw; (try dsimp only at hSw); go_simp; try (with_reducible rfl))
  try simp only [List.getElem_toArray, List.getElem_cons_zero, List.getElem_cons_succ, Act.put, List.setIfInBounds_toArray, List.set_cons_zero, List.set_cons_succ]
  refine wpAnyH_take (i := 3) (oi := _) (v := ?_) rfl (by kernel_rfl) (by kernel_rfl) (by kernel_rfl) (fun _ _ _ h => h) (Or.inl ⟨by rfl, ?_⟩) (by assumption) ?_
  rotate_left
  focus (intro w hSw; (try dsimp only at hSw); go_simp; try (with_reducible rfl))
  try simp only [List.getElem_toArray, List.getElem_cons_zero, List.getElem_cons_succ, Act.put, List.setIfInBounds_toArray, List.set_cons_zero, List.set_cons_succ]
  refine wpAnyH_take (i := 4) (oi := _) (v := ?_) rfl (by kernel_rfl) (by kernel_rfl) (by kernel_rfl) (fun _ _ _ h => h) (Or.inl ⟨by rfl, ?_⟩) (by assumption) ?_
  rotate_left
  focus (intro w hSw; (try dsimp only at hSw); go_simp; try (with_reducible rfl))
  try simp only [List.getElem_toArray, List.getElem_cons_zero, List.getElem_cons_succ, Act.put, List.setIfInBounds_toArray, List.set_cons_zero, List.set_cons_succ]
  refine wpAnyH_ready (rs := [5]) (by kernel_rfl) (by simp) ?_
  refine AllReadyH.cons (o := _) rfl (fun K hK => ?_) AllReadyH.nil
  go_simp
  (go_at_call 84; refine (drawStack B (0 + 410 + 2) n a ls _ _ (triples_of_owns HT3'.out) HNE.out HR3'.out (by omega)).mono ?_; rintro e w4 ⟨x, s, rfl, hs, hO4, hR4, hG4⟩; have HT4 := Lib.hid (own_only HT3'.out hG4 (by omega)); have B4 := Lib.hid (below_only B3'.out (Nat.le_refl _) (by omega) hG4); have HP := Lib.hid (hO4.mono (show B + 1 ≤ w3.drew.heap.size by have := B3'.out.size; have := rdLe_lt HR3'.out; omega) (Nat.le_refl _)).1; have R4 := Lib.hid (R3'.out.only hG4 (by omega)); have G4 := Lib.hid (G3'.out.only hG4 (by omega)); clear b0 b1 f0 f1 hb0 hO4 hR4 hG4 HR3' B3' HT3' R3' G3'; obtain ⟨b0, b1, f0, f1, hb0⟩ := box2 G4.out; obtain ⟨c0, c1, h0, h1, hc0⟩ := box2 R4.out; have hwg : ¬ G = w.heap.size := (by omega))
  refine hK.out _ _ (by ((try dsimp only); (first | go_keep | exact ⟨b0, b1⟩))) (fun hHeld => ?_)
  clear hK K
  try simp only [List.getElem_toArray, List.getElem_cons_zero, List.getElem_cons_succ, Act.put, List.setIfInBounds_toArray, List.set_cons_zero, List.set_cons_succ]
  refine wpAnyH_ready (rs := [6]) (by kernel_rfl) (by simp) ?_
  refine AllReadyH.cons (o := _) rfl (fun K hK => ?_) AllReadyH.nil
  go_simp
  (have G5 := Lib.hid ((G4.out.setOther (a := ⟨w.heap.size, 0, none⟩) (by simp; omega) (.int .i64 n)).setOther (a := ⟨w.heap.size, 1, none⟩) (by simp; omega) (.slice ua ls.length uc)); have B5 := Lib.hid ((B4.out.setCell (p := ⟨w.heap.size, 0, none⟩) (Nat.le_refl _) (.int .i64 n)).setCell (p := ⟨w.heap.size, 1, none⟩) (Nat.le_refl _) (.slice ua ls.length uc)); have R5 := Lib.hid (box2_set1 (box2_set0 R4.out (.int .i64 n)) (.slice ua ls.length uc)); have HT5 := Lib.hid (own_setCell (own_setCell HT4.out (a := ⟨w.heap.size, 0, none⟩) (by simp; omega) (.int .i64 n)) (a := ⟨w.heap.size, 1, none⟩) (by simp; omega) (.slice ua ls.length uc)); have HP5 := Lib.hid (own_setCell (own_setCell HP.out (a := ⟨w.heap.size, 0, none⟩) (by simp; omega) (.int .i64 n)) (a := ⟨w.heap.size, 1, none⟩) (by simp; omega) (.slice ua ls.length uc)); clear b0 b1 f0 f1 hb0 c0 c1 h0 h1 hc0; obtain ⟨b0, b1, f0, f1, hb0⟩ := box2 G5.out; obtain ⟨c0, c1, h0, h1, hc0⟩ := box2 R5.out)
  refine hK.out _ _ (by ((try dsimp only); (first | go_keep | exact ⟨b0, b1⟩))) (fun hHeld => ?_)
  clear hK K
  try simp only [List.getElem_toArray, List.getElem_cons_zero, List.getElem_cons_succ, Act.put, List.setIfInBounds_toArray, List.set_cons_zero, List.set_cons_succ]
  refine wpAnyH_take (i := 7) (oi := _) (v := ?_) rfl (by kernel_rfl) (by kernel_rfl) (by kernel_rfl) (fun _ _ _ h => h) (Or.inl ⟨by rfl, ?_⟩) (by assumption) ?_
  rotate_left
  focus (intro w hSw; (try dsimp only at hSw); go_simp; try (with_reducible rfl))
  try simp only [List.getElem_toArray, List.getElem_cons_zero, List.getElem_cons_succ, Act.put, List.setIfInBounds_toArray, List.set_cons_zero, List.set_cons_succ]
  refine wpAnyH_take (i := 8) (oi := _) (v := ?_) rfl (by kernel_rfl) (by kernel_rfl) (by kernel_rfl) (fun _ _ _ h => h) (Or.inl ⟨by rfl, ?_⟩) (by assumption) ?_
  rotate_left
  focus (intro w hSw; (try dsimp only at hSw); go_simp; try (with_reducible rfl))
  try simp only [List.getElem_toArray, List.getElem_cons_zero, List.getElem_cons_succ, Act.put, List.setIfInBounds_toArray, List.set_cons_zero, List.set_cons_succ]
  refine wpAnyH_done (by kernel_rfl) ?_ _
  refine NoPanic.normal ?_
  obtain ⟨sa, sc, rfl⟩ := own_slice HP.out
  go_wp2_with fail
  apply bodyPost_ret
  · simp [results, Try.results61, go_sem, c0, c1, h0, h1, hc0]
    rfl
  · rfl
  · exact ⟨⟨n, _, ls, a, _, s, rfl, hls, triples_of_owns HT5.out, hs, pairs_of_owns HP5.out, (fun g hg => by have := own_ge HT5.out g hg; omega), fun g hg => by have := own_ge HP5.out g hg; omega⟩, B5.out⟩
set_option maxRecDepth 100000 in
set_option maxHeartbeats 1000000 in
theorem drawSU (v : Value) (w : World) (h : CodeAt w v) : Calls Try.prog 35 #[v] w (SEPost w) := by
  go_enter Try.func35, Try.ntmps35
  go_wp2_with fail
  have R0 := box_new w #[.int .i64 0, .slice none 0 0] 25
  have B0 : Below w.heap.size w (w.alloc (.cells #[.int .i64 0, .slice none 0 0] 25)) := (by with_reducible (repeat (first | (refine below_drewN ?_ _) | (refine Below.drew ?_) | (refine below_alloc ?_ (by first | omega | (simp; done) | (simp; omega)) _) | (refine Below.setCell ?_ (by first | omega | (simp; done) | (simp; omega)) _) | exact Below.refl _ _ | assumption | (refine below_call ?_ (by first | omega | (simp; done) | (simp; omega)) (by assumption)))))
  have hC := codeAt_alloc h (.cells #[.int .i64 0, .slice none 0 0] 25)
  obtain ⟨W0, hW0⟩ : ∃ W0, w.alloc (.cells #[.int .i64 0, .slice none 0 0] 25) = W0 := ⟨_, rfl⟩
  rw [hW0] at R0 B0 hC ⊢
  have HC := Lib.hid hC
  clear hW0 hC h
  refine (drawSE v W0 HC.out).mono ?_
  rintro e w1 ⟨⟨n, u, ls, a, x, s, rfl, hls, hT, hs, hP, hTg, hPg⟩, hb⟩
  obtain ⟨ua, um, uc, rfl⟩ := hT.form
  obtain ⟨xa, xm, xc, rfl⟩ := hP.form
  have hwl : w.heap.size < W0.heap.size := R0.lt
  have R1 := Lib.hid (R0.below hb R0.lt)
  have B1 := Lib.hid (B0.trans (hb.mono B0.size))
  have HT := Lib.hid hT; have HP := Lib.hid hP
  obtain ⟨c0, c1, h0, h1, hc0⟩ := box2 R1.out
  clear hT hP hb B0 R0 HC
  go_wp2_with fail
  have G5 := only_set2 w1 w.heap.size (.int .i64 n) (.slice ua um uc)
  have hT5 := HT.out.only G5 (fun e => by have := hTg _ e; have := hwl; omega)
  have hP5 := HP.out.only G5 (fun e => by have := hPg _ e; have := hwl; omega)
  have B5 := (B1.out.setCell (p := ⟨w.heap.size, 0, none⟩) (Nat.le_refl _) (.int .i64 n)).setCell (p := ⟨w.heap.size, 1, none⟩) (Nat.le_refl _) (.slice ua um uc)
  have R5 := box2_set1 (box2_set0 R1.out (.int .i64 n)) (.slice ua um uc)
  clear c0 c1 h0 h1 hc0
  obtain ⟨c0, c1, h0, h1, hc0⟩ := box2 R5
  apply bodyPost_ret
  · simp [results, Try.results35, go_sem, c0, c1, h0, h1, hc0]
    rfl
  · rfl
  · exact ⟨⟨n, _, ls, a, _, s, rfl, hls, hT5, hs, hP5, (fun g hg => by have := hTg _ hg; omega), fun g hg => by have := hPg _ hg; omega⟩, B5⟩
end Go.Proofs.Ytoebefpmfgkpoaa
