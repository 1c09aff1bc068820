/- The draws of a graph, and of a graph, a node and a sequence number: DrawGraphValid, DrawLsaOf (mkda.py). -/
import Derived.Test.YtnnkdoomjkccgaaDrawGS
import Derived.Test.YtnnkdoomjkccgaaGrAll
namespace Go.Proofs.Ytnnkdoomjkccgaa
set_option linter.unusedSimpArgs false
set_option linter.unusedVariables false
open Go.RowKit

/-- A graph is drawn: the reader, the graph, its box, the box of the result. -/
structure DwG (w : World) (R B G : Nat) (n : Int) (u : Value) (ls : List LinkD) (m : Int) (W : World) : Prop where
  rd : RdLe W B m
  row : W.ownsRow (B + 1) 46 3 u ls.length (cells3 ls)
  boxR : Box W R #[.int .i64 0, .slice none 0 0] 26
  boxG : Box W G #[.int .i64 n, u] 26
  bw : Below w.heap.size w W
section
variable {w : World} {R B G : Nat} {n : Int} {u : Value} {ls : List LinkD} {m : Int} {W W' : World}
theorem DwG.only (h : DwG w R B G n u ls m W) (hR : R ≠ B) (hG : G ≠ B) (hw : w.heap.size ≤ B) (hg : W.grownBy W' (some B)) {m' : Int} (hr : RdLe W' B m') : DwG w R B G n u ls m' W' :=
  ⟨hr, own_only h.row hg (by omega), h.boxR.only hg hR, h.boxG.only hg hG, below_only h.bw (Nat.le_refl _) hw hg⟩
theorem DwG.below (h : DwG w R B G n u ls m W) (hb : Below W.heap.size W W') : DwG w R B G n u ls m W' :=
  ⟨rdLe_below h.rd hb, ((OwnR.of h.row).below hb (Nat.le_refl _)).1, h.boxR.below hb h.boxR.lt, h.boxG.below hb h.boxG.lt, h.bw.trans (hb.mono h.bw.size)⟩
theorem DwG.alloc (h : DwG w R B G n u ls m W) (o : Obj) : DwG w R B G n u ls m (W.alloc o) := h.below ((Below.refl _ _).alloc (Nat.le_refl _) _)
theorem DwG.drew (h : DwG w R B G n u ls m W) : DwG w R B G n u ls m W.drew := h.below (Below.refl _ _).drew
/-- The graph in the result's box. -/
theorem DwG.out (h : DwG w R B G n u ls m W) (hR : R ≤ B) (hw : w.heap.size ≤ R) : TriplesAt ((W.setCell ⟨R, 0, none⟩ (.int .i64 n)).setCell ⟨R, 1, none⟩ u) u ls ∧ Below w.heap.size w ((W.setCell ⟨R, 0, none⟩ (.int .i64 n)).setCell ⟨R, 1, none⟩ u) ∧ Box ((W.setCell ⟨R, 0, none⟩ (.int .i64 n)).setCell ⟨R, 1, none⟩ u) R #[.int .i64 n, u] 26 :=
  ⟨triples_of_owns (own_setCell (own_setCell h.row (a := ⟨R, 0, none⟩) (show R < B + 1 by omega) _) (a := ⟨R, 1, none⟩) (show R < B + 1 by omega) _), (h.bw.setCell (p := ⟨R, 0, none⟩) hw _).setCell (p := ⟨R, 1, none⟩) hw _, box2_set1 (box2_set0 h.boxR _) _⟩
end
/-- A graph and nothing else. -/
structure GvPost (w : World) (e : Ending) (w' : World) : Prop where
  ex : ∃ (n : Int) (u : Value) (ls : List LinkD), e = .returned (.agg #[.int .i64 n, u]) ∧ ls.length ≤ 15 ∧ TriplesAt w' u ls
  below : Below w.heap.size w w'
set_option maxRecDepth 100000 in
set_option maxHeartbeats 1000000 in
theorem drawGv (v : Value) (w : World) (h : CodeAt w v) : Calls Try.prog 33 #[v] w (GvPost w) := by
  go_enter Try.func33, Try.ntmps33
  go_wp2_with fail
  have R0 := box_new w #[.int .i64 0, .slice none 0 0] 26
  have B0 : Below w.heap.size w (w.alloc (.cells #[.int .i64 0, .slice none 0 0] 26)) := (by with_reducible (repeat (first | (refine below_drewN ?_ _) | (refine Below.drew ?_) | (refine below_alloc ?_ (by first | omega | (simp; done) | (simp; omega)) _) | (refine Below.setCell ?_ (by first | omega | (simp; done) | (simp; omega)) _) | exact Below.refl _ _ | assumption | (refine below_call ?_ (by first | omega | (simp; done) | (simp; omega)) (by assumption)))))
  have hC := codeAt_alloc h (.cells #[.int .i64 0, .slice none 0 0] 26)
  obtain ⟨W0, hW0⟩ : ∃ W0, w.alloc (.cells #[.int .i64 0, .slice none 0 0] 26) = W0 := ⟨_, rfl⟩
  rw [hW0] at R0 B0 hC ⊢
  have HC := Lib.hid hC
  clear hW0 hC h
  refine (open_any v W0 W0.heap.size rfl HC.out).mono ?_
  rintro e w1 ⟨rfl, hR1, hb1, hlt1⟩
  obtain ⟨B, hB⟩ : ∃ B, W0.heap.size = B := ⟨_, rfl⟩
  have B1 := Lib.hid (B0.trans (hb1.mono B0.size))
  have R1 := Lib.hid (R0.below hb1 R0.lt)
  have hwB : w.heap.size < B := by have := R0.lt; omega
  rw [hB] at hR1 hlt1 ⊢
  have HR1 := Lib.hid hR1
  clear hb1 hB hR1 R0 B0 HC
  go_wp2_with fail
  refine (drawSpoilt B 0 _ HR1.out (by omega)).mono ?_
  rintro e w2 ⟨n, u, ls, rfl, hls, hO, hR2, hG2⟩
  have HT := Lib.hid (hO.mono (show B + 1 ≤ w1.heap.size by omega) (Nat.le_refl _)).1
  obtain ⟨ua, uc, rfl⟩ := own_slice hO.1
  have B2 := Lib.hid (below_only B1.out (Nat.le_refl _) (by omega) hG2)
  have R2 := Lib.hid (R1.out.only hG2 (by omega))
  have HR2 := Lib.hid hR2
  have hs2 := hG2.size
  clear hO hR2 hG2 HR1 B1 R1
  obtain ⟨c0, c1, h0, h1, hc0⟩ := box2 R2.out
  go_wp2_with fail
  have hd : DwG w w.heap.size B w.heap.size 0 (.slice none 0 0) [] 410 w2 := ⟨HR2.out, ⟨rfl, .inl ⟨rfl, rfl⟩⟩, R2.out, R2.out, B2.out⟩
  have T5 := triples_of_owns (own_setCell (own_setCell HT.out (a := ⟨w.heap.size, 0, none⟩) (show w.heap.size < B + 1 by omega) (.int .i64 n)) (a := ⟨w.heap.size, 1, none⟩) (show w.heap.size < B + 1 by omega) (.slice ua ls.length uc))
  have B5 := (B2.out.setCell (p := ⟨w.heap.size, 0, none⟩) (Nat.le_refl _) (.int .i64 n)).setCell (p := ⟨w.heap.size, 1, none⟩) (Nat.le_refl _) (.slice ua ls.length uc)
  have R5 := box2_set1 (box2_set0 R2.out (.int .i64 n)) (.slice ua ls.length uc)
  clear c0 c1 h0 h1 hc0 hd
  obtain ⟨c0, c1, h0, h1, hc0⟩ := box2 R5
  apply bodyPost_ret
  · simp [results, Try.results33, go_sem, c0, c1, h0, h1, hc0]
    rfl
  · rfl
  · exact ⟨⟨n, _, ls, rfl, hls, T5⟩, B5⟩
theorem box_pick6 {w : World} {b : Nat} {x0 x1 x2 x3 x4 x5 v : Int} {t : TypeId} (h : Box w b #[.int .i64 x0, .int .i64 x1, .int .i64 x2, .int .i64 x3, .int .i64 x4, .int .i64 x5] t) (h0 : 0 ≤ v) (h1 : v < 6) : ∃ c : Int, w.cell? ⟨b, v.toNat, none⟩ = some (.int .i64 c) := by
  have : v = 0 ∨ v = 1 ∨ v = 2 ∨ v = 3 ∨ v = 4 ∨ v = 5 := by omega
  rcases this with rfl | rfl | rfl | rfl | rfl | rfl
  · exact ⟨x0, h.cell 0 _ rfl⟩
  · exact ⟨x1, h.cell 1 _ rfl⟩
  · exact ⟨x2, h.cell 2 _ rfl⟩
  · exact ⟨x3, h.cell 3 _ rfl⟩
  · exact ⟨x4, h.cell 4 _ rfl⟩
  · exact ⟨x5, h.cell 5 _ rfl⟩
/-- A graph and two numbers. -/
structure LoPost (w : World) (e : Ending) (w' : World) : Prop where
  ex : ∃ (n : Int) (u : Value) (ls : List LinkD) (a s : Int), e = .returned (.tuple #[.agg #[.int .i64 n, u], .int .i64 a, .int .i64 s]) ∧ ls.length ≤ 15 ∧ TriplesAt w' u ls
  below : Below w.heap.size w w'
set_option maxRecDepth 100000 in
set_option maxHeartbeats 4000000 in
theorem drawLo (v : Value) (w : World) (h : CodeAt w v) : Calls Try.prog 22 #[v] w (LoPost w) := by
  go_enter Try.func22, Try.ntmps22
  go_wp2_with fail
  have R0 := box_new w #[.int .i64 0, .slice none 0 0] 26
  have B0 : Below w.heap.size w (w.alloc (.cells #[.int .i64 0, .slice none 0 0] 26)) := (by with_reducible (repeat (first | (refine below_drewN ?_ _) | (refine Below.drew ?_) | (refine below_alloc ?_ (by first | omega | (simp; done) | (simp; omega)) _) | (refine Below.setCell ?_ (by first | omega | (simp; done) | (simp; omega)) _) | exact Below.refl _ _ | assumption | (refine below_call ?_ (by first | omega | (simp; done) | (simp; omega)) (by assumption)))))
  have hC := codeAt_alloc h (.cells #[.int .i64 0, .slice none 0 0] 26)
  obtain ⟨W0, hW0⟩ : ∃ W0, w.alloc (.cells #[.int .i64 0, .slice none 0 0] 26) = W0 := ⟨_, rfl⟩
  rw [hW0] at R0 B0 hC ⊢
  have HC := Lib.hid hC
  clear hW0 hC h
  refine (open_any v W0 W0.heap.size rfl HC.out).mono ?_
  rintro e w1 ⟨rfl, hR1, hb1, hlt1⟩
  obtain ⟨B, hB⟩ : ∃ B, W0.heap.size = B := ⟨_, rfl⟩
  have B1 := Lib.hid (B0.trans (hb1.mono B0.size))
  have R1 := Lib.hid (R0.below hb1 R0.lt)
  have hwB : w.heap.size < B := by have := R0.lt; omega
  rw [hB] at hR1 hlt1 ⊢
  have HR1 := Lib.hid hR1
  clear hb1 hB hR1 R0 B0 HC
  go_wp2_with fail
  refine (drawSpoilt B 0 _ HR1.out (by omega)).mono ?_
  rintro e w2 ⟨n, u, ls, rfl, hls, hO, hR2, hG2⟩
  have HT := Lib.hid (hO.mono (show B + 1 ≤ w1.heap.size by omega) (Nat.le_refl _)).1
  obtain ⟨ua, uc, rfl⟩ := own_slice hO.1
  have B2 := Lib.hid (below_only B1.out (Nat.le_refl _) (by omega) hG2)
  have R2 := Lib.hid (R1.out.only hG2 (by omega))
  have HR2 := Lib.hid hR2
  have hs2 := hG2.size
  clear hO hR2 hG2 HR1 B1 R1
  go_wp2_with fail
  have hGB : w2.heap.size ≠ B := by omega
  have hwG : w.heap.size < w2.heap.size := by omega
  have HD0 : Hid (DwG w w.heap.size B w2.heap.size n (.slice ua ls.length uc) ls (0 + 410) (w2.alloc (.cells #[.int .i64 n, .slice ua ls.length uc] 26))) :=
    Lib.hid ⟨rdLe_alloc HR2.out _, HT.out.alloc _, R2.out.alloc _, box_new _ _ _, B2.out.alloc B2.out.size _⟩
  obtain ⟨G, hG⟩ : ∃ G, w2.heap.size = G := ⟨_, rfl⟩
  obtain ⟨X, hX⟩ : ∃ X, w2.alloc (.cells #[.int .i64 n, .slice ua ls.length uc] 26) = X := ⟨_, rfl⟩
  rw [hX] at HD0 ⊢
  rw [hG] at HD0 hGB hwG ⊢
  clear hX hG HT B2 R2 HR2
  have hRB : w.heap.size ≠ B := by omega
  refine (drawNode B (0 + 410) n _ _ ⟨_, _, _, rfl⟩ HD0.out.rd (by omega)).mono ?_
  rintro e w3 ⟨a, rfl, hR3, hG3⟩
  have HD : Hid (DwG w w.heap.size B G n (.slice ua ls.length uc) ls (0 + 410 + 2) w3) := Lib.hid (HD0.out.only hRB hGB (by omega) hG3 hR3)
  clear hR3 hG3 HD0
  obtain ⟨b0, b1, f0, f1, hb0⟩ := box2 HD.out.boxG
  obtain ⟨c0, c1, h0, h1, hc0⟩ := box2 HD.out.boxR
  have hwg : ¬ G = w.heap.size := by omega
  go_wp2_with fail
  replace HD := Lib.hid HD.out.drew
  refine wp_region_noPanic ?_
  refine wp_region_held_drew (S := (fun w' => w'.cell? ⟨G, 0, none⟩ = some (.int .i64 n) ∧ w'.cell? ⟨G, 1, none⟩ = some (.slice ua ls.length uc))) (by kernel_rfl) (by ((try dsimp only); (first | go_keep | exact ⟨b0, b1⟩))) (fun hHeld => ?_)
  refine wpAnyH_take (i := 0) (oi := _) (v := ?_) rfl (by kernel_rfl) (by kernel_rfl) (by kernel_rfl) (fun _ _ _ h => h) (Or.inl ⟨by rfl, ?_⟩) (by assumption) ?_
  rotate_left
  focus (intro w hSw; (try dsimp only at hSw); go_simp; try (with_reducible rfl))
  try simp only [List.getElem_toArray, List.getElem_cons_zero, List.getElem_cons_succ, Act.put, List.setIfInBounds_toArray, List.set_cons_zero, List.set_cons_succ]
  refine wpAnyH_take (i := 1) (oi := _) (v := ?_) rfl (by kernel_rfl) (by kernel_rfl) (by kernel_rfl) (fun _ _ _ h => h) (Or.inl ⟨by rfl, ?_⟩) (by assumption) ?_
  rotate_left
  focus (intro w hSw; (try dsimp only at hSw); go_simp; try (with_reducible rfl))
  try simp only [List.getElem_toArray, List.getElem_cons_zero, List.getElem_cons_succ, Act.put, List.setIfInBounds_toArray, List.set_cons_zero, List.set_cons_succ]
  refine wpAnyH_take (i := 2) (oi := _) (v := ?_) rfl (by kernel_rfl) (by kernel_rfl) (by kernel_rfl) (fun _ _ _ h => h) (Or.inl ⟨by rfl, ?_⟩) (by assumption) ?_
  rotate_left
  focus (intro w hSw; (try dsimp only at hSw); go_simp; try (with_reducible rfl))
  try simp only [List.getElem_toArray, List.getElem_cons_zero, List.getElem_cons_succ, Act.put, List.setIfInBounds_toArray, List.set_cons_zero, List.set_cons_succ]
  refine wpAnyH_take (i := 5) (oi := _) (v := ?_) rfl (by kernel_rfl) (by kernel_rfl) (by kernel_rfl) (fun _ _ _ h => h) (Or.inl ⟨by rfl, ?_⟩) (by assumption) ?_
  rotate_left
  focus (intro w hSw; (try dsimp only at hSw); go_simp; try (with_reducible rfl))
  try simp only [List.getElem_toArray, List.getElem_cons_zero, List.getElem_cons_succ, Act.put, List.setIfInBounds_toArray, List.set_cons_zero, List.set_cons_succ]
  refine wpAnyH_take (i := 8) (oi := _) (v := ?_) rfl (by kernel_rfl) (by kernel_rfl) (by kernel_rfl) (fun _ _ _ h => h) (Or.inl ⟨by rfl, ?_⟩) (by assumption) ?_
  rotate_left
  focus (intro w hSw; (try dsimp only at hSw); go_simp; try (with_reducible rfl))
  try simp only [List.getElem_toArray, List.getElem_cons_zero, List.getElem_cons_succ, Act.put, List.setIfInBounds_toArray, List.set_cons_zero, List.set_cons_succ]
  refine wpAnyH_take (i := 12) (oi := _) (v := ?_) rfl (by kernel_rfl) (by kernel_rfl) (by kernel_rfl) (fun _ _ _ h => h) (Or.inl ⟨by rfl, ?_⟩) (by assumption) ?_
  rotate_left
  focus (intro w hSw; (try dsimp only at hSw); go_simp; try (with_reducible rfl))
  try simp only [List.getElem_toArray, List.getElem_cons_zero, List.getElem_cons_succ, Act.put, List.setIfInBounds_toArray, List.set_cons_zero, List.set_cons_succ]
  refine wpAnyH_ready (rs := [3]) (by kernel_rfl) (by simp) ?_
  refine AllReadyH.cons (o := _) rfl (fun K hK => ?_) AllReadyH.nil
  go_simp
  go_at_call 50
  apply pick_op
  · exact HD.out.rd
  · exact by omega
  intro v1 x1 v1_0 v1_1 hR hG
  have wv1 : IntKind.i64.wrap (1 + v1) = 1 + v1 := IntWalk.i64_in _ (by omega)
  replace HD := Lib.hid (HD.out.only hRB hGB (by omega) hG hR)
  clear hR hG
  clear b0 b1 f0 f1 hb0 c0 c1 h0 h1 hc0
  have _b := box2 HD.out.boxG; have b0 := _b.1; have b1 := _b.2.1; have f0 := _b.2.2.1; have f1 := _b.2.2.2.1; have hb0 := _b.2.2.2.2; clear _b
  have _c := box2 HD.out.boxR; have c0 := _c.1; have c1 := _c.2.1; have h0 := _c.2.2.1; have h1 := _c.2.2.2.1; have hc0 := _c.2.2.2.2; clear _c
  refine hK.out _ _ (by ((try dsimp only); (first | go_keep | exact ⟨b0, b1⟩))) (fun hHeld => ?_)
  clear hK K
  try simp only [List.getElem_toArray, List.getElem_cons_zero, List.getElem_cons_succ, Act.put, List.setIfInBounds_toArray, List.set_cons_zero, List.set_cons_succ]
  refine wpAnyH_take (i := 4) (oi := _) (v := ?_) rfl (by kernel_rfl) (by kernel_rfl) (by kernel_rfl) (fun _ _ _ h => h) (Or.inl ⟨by rfl, ?_⟩) (by assumption) ?_
  rotate_left
  focus (intro w hSw; (try dsimp only at hSw); go_simp; try (with_reducible rfl))
  try simp only [List.getElem_toArray, List.getElem_cons_zero, List.getElem_cons_succ, Act.put, List.setIfInBounds_toArray, List.set_cons_zero, List.set_cons_succ]
  refine wpAnyH_ready (rs := [6]) (by kernel_rfl) (by simp) ?_
  refine AllReadyH.cons (o := _) rfl (fun K hK => ?_) AllReadyH.nil
  go_simp
  go_at_call 50
  apply pick_op
  · exact HD.out.rd
  · exact by omega
  intro v2 x2 v2_0 v2_1 hR hG
  have wv2 : IntKind.i64.wrap (1 + v2) = 1 + v2 := IntWalk.i64_in _ (by omega)
  replace HD := Lib.hid (HD.out.only hRB hGB (by omega) hG hR)
  clear hR hG
  clear b0 b1 f0 f1 hb0 c0 c1 h0 h1 hc0
  have _b := box2 HD.out.boxG; have b0 := _b.1; have b1 := _b.2.1; have f0 := _b.2.2.1; have f1 := _b.2.2.2.1; have hb0 := _b.2.2.2.2; clear _b
  have _c := box2 HD.out.boxR; have c0 := _c.1; have c1 := _c.2.1; have h0 := _c.2.2.1; have h1 := _c.2.2.2.1; have hc0 := _c.2.2.2.2; clear _c
  refine hK.out _ _ (by ((try dsimp only); (first | go_keep | exact ⟨b0, b1⟩))) (fun hHeld => ?_)
  clear hK K
  try simp only [List.getElem_toArray, List.getElem_cons_zero, List.getElem_cons_succ, Act.put, List.setIfInBounds_toArray, List.set_cons_zero, List.set_cons_succ]
  refine wpAnyH_take (i := 7) (oi := _) (v := ?_) rfl (by kernel_rfl) (by kernel_rfl) (by kernel_rfl) (fun _ _ _ h => h) (Or.inl ⟨by rfl, ?_⟩) (by assumption) ?_
  rotate_left
  focus (intro w hSw; (try dsimp only at hSw); go_simp; try (with_reducible rfl))
  try simp only [List.getElem_toArray, List.getElem_cons_zero, List.getElem_cons_succ, Act.put, List.setIfInBounds_toArray, List.set_cons_zero, List.set_cons_succ]
  refine wpAnyH_ready (rs := [9]) (by kernel_rfl) (by simp) ?_
  refine AllReadyH.cons (o := _) rfl (fun K hK => ?_) AllReadyH.nil
  go_simp
  go_at_call 50
  apply pick_op
  · exact HD.out.rd
  · exact by omega
  intro v3 x3 v3_0 v3_1 hR hG
  have wv3 : IntKind.i64.wrap (1 + v3) = 1 + v3 := IntWalk.i64_in _ (by omega)
  replace HD := Lib.hid (HD.out.only hRB hGB (by omega) hG hR)
  clear hR hG
  clear b0 b1 f0 f1 hb0 c0 c1 h0 h1 hc0
  have _b := box2 HD.out.boxG; have b0 := _b.1; have b1 := _b.2.1; have f0 := _b.2.2.1; have f1 := _b.2.2.2.1; have hb0 := _b.2.2.2.2; clear _b
  have _c := box2 HD.out.boxR; have c0 := _c.1; have c1 := _c.2.1; have h0 := _c.2.2.1; have h1 := _c.2.2.2.1; have hc0 := _c.2.2.2.2; clear _c
  refine hK.out _ _ (by ((try dsimp only); (first | go_keep | exact ⟨b0, b1⟩))) (fun hHeld => ?_)
  clear hK K
  try simp only [List.getElem_toArray, List.getElem_cons_zero, List.getElem_cons_succ, Act.put, List.setIfInBounds_toArray, List.set_cons_zero, List.set_cons_succ]
  refine wpAnyH_take (i := 10) (oi := _) (v := ?_) rfl (by kernel_rfl) (by kernel_rfl) (by kernel_rfl) (fun _ _ _ h => h) (Or.inl ⟨by rfl, ?_⟩) (by assumption) ?_
  rotate_left
  focus (intro w hSw; (try dsimp only at hSw); go_simp; try (with_reducible rfl))
  try simp only [List.getElem_toArray, List.getElem_cons_zero, List.getElem_cons_succ, Act.put, List.setIfInBounds_toArray, List.set_cons_zero, List.set_cons_succ]
  refine wpAnyH_ready (rs := [11, 13]) (by kernel_rfl) (by simp) ?_
  refine AllReadyH.cons (o := _) rfl (fun K hK => ?_) (AllReadyH.cons (o := _) rfl (fun K hK => ?_) AllReadyH.nil)
  · go_simp
    have hTB : x3.heap.size ≠ B := by have := rdLe_lt HD.out.rd; omega
    have hTw : ¬ x3.heap.size = w.heap.size := by have := rdLe_lt HD.out.rd; omega
    have BT := Lib.hid (box_new x3 #[.int .i64 0, .int .i64 99, .int .i64 100, .int .i64 (1 + v1), .int .i64 (1 + v2), .int .i64 (1 + v3)] 3)
    replace HD := Lib.hid (HD.out.alloc (.cells #[.int .i64 0, .int .i64 99, .int .i64 100, .int .i64 (1 + v1), .int .i64 (1 + v2), .int .i64 (1 + v3)] 3))
    clear b0 b1 f0 f1 hb0 c0 c1 h0 h1 hc0
    have _b := box2 HD.out.boxG; have b0 := _b.1; have b1 := _b.2.1; have f0 := _b.2.2.1; have f1 := _b.2.2.2.1; have hb0 := _b.2.2.2.2; clear _b
    have _c := box2 HD.out.boxR; have c0 := _c.1; have c1 := _c.2.1; have h0 := _c.2.2.1; have h1 := _c.2.2.2.1; have hc0 := _c.2.2.2.2; clear _c
    refine hK.out _ _ (by ((try dsimp only); (first | go_keep | exact ⟨b0, b1⟩))) (fun hHeld => ?_)
    clear hK K
    try simp only [List.getElem_toArray, List.getElem_cons_zero, List.getElem_cons_succ, Act.put, List.setIfInBounds_toArray, List.set_cons_zero, List.set_cons_succ]
    refine wpAnyH_ready (rs := [13]) (by kernel_rfl) (by simp) ?_
    refine AllReadyH.cons (o := _) rfl (fun K hK => ?_) AllReadyH.nil
    go_simp
    go_at_call 50
    apply pick_op
    · exact HD.out.rd
    · exact by omega
    intro v4 x4 v4_0 v4_1 hR hG
    replace BT := Lib.hid (BT.out.only hG hTB)
    have hv4 : v4 < 6 := by omega
    replace HD := Lib.hid (HD.out.only hRB hGB (by omega) hG hR)
    clear hR hG
    clear b0 b1 f0 f1 hb0 c0 c1 h0 h1 hc0
    have _b := box2 HD.out.boxG; have b0 := _b.1; have b1 := _b.2.1; have f0 := _b.2.2.1; have f1 := _b.2.2.2.1; have hb0 := _b.2.2.2.2; clear _b
    have _c := box2 HD.out.boxR; have c0 := _c.1; have c1 := _c.2.1; have h0 := _c.2.2.1; have h1 := _c.2.2.2.1; have hc0 := _c.2.2.2.2; clear _c
    refine hK.out _ _ (by ((try dsimp only); (first | go_keep | exact ⟨b0, b1⟩))) (fun hHeld => ?_)
    clear hK K
    try simp only [List.getElem_toArray, List.getElem_cons_zero, List.getElem_cons_succ, Act.put, List.setIfInBounds_toArray, List.set_cons_zero, List.set_cons_succ]
    refine wpAnyH_take (i := 14) (oi := _) (v := ?_) rfl (by kernel_rfl) (by kernel_rfl) (by kernel_rfl) (fun _ _ _ h => h) (Or.inl ⟨by rfl, ?_⟩) (by assumption) ?_
    rotate_left
    focus (intro w hSw; (try dsimp only at hSw); go_simp; try (with_reducible rfl))
    try simp only [List.getElem_toArray, List.getElem_cons_zero, List.getElem_cons_succ, Act.put, List.setIfInBounds_toArray, List.set_cons_zero, List.set_cons_succ]
    obtain ⟨z, hz⟩ := box_pick6 BT.out v4_0 hv4
    refine wpAnyH_ready (rs := [15, 16]) (by kernel_rfl) (by simp) ?_
    refine AllReadyH.cons (o := _) rfl (fun K hK => ?_) (AllReadyH.cons (o := _) rfl (fun K hK => ?_) AllReadyH.nil)
    · go_simp
      refine hK.out _ _ (by ((try dsimp only); (first | go_keep | exact ⟨b0, b1⟩))) (fun hHeld => ?_)
      clear hK K
      try simp only [List.getElem_toArray, List.getElem_cons_zero, List.getElem_cons_succ, Act.put, List.setIfInBounds_toArray, List.set_cons_zero, List.set_cons_succ]
      refine wpAnyH_ready (rs := [16]) (by kernel_rfl) (by simp) ?_
      refine AllReadyH.cons (o := _) rfl (fun K hK => ?_) AllReadyH.nil
      go_simp
      have HDO := Lib.hid (HD.out.out (by omega) (Nat.le_refl _))
      have G5 := Lib.hid ((HD.out.boxG.setOther (a := ⟨w.heap.size, 0, none⟩) (by simp; omega) (.int .i64 n)).setOther (a := ⟨w.heap.size, 1, none⟩) (by simp; omega) (.slice ua ls.length uc))
      clear b0 b1 f0 f1 hb0 c0 c1 h0 h1 hc0
      have _b := box2 G5.out; have b0 := _b.1; have b1 := _b.2.1; have f0 := _b.2.2.1; have f1 := _b.2.2.2.1; have hb0 := _b.2.2.2.2; clear _b
      have _c := box2 HDO.out.2.2; have c0 := _c.1; have c1 := _c.2.1; have h0 := _c.2.2.1; have h1 := _c.2.2.2.1; have hc0 := _c.2.2.2.2; clear _c
      refine hK.out _ _ (by ((try dsimp only); (first | go_keep | exact ⟨b0, b1⟩))) (fun hHeld => ?_)
      clear hK K
      try simp only [List.getElem_toArray, List.getElem_cons_zero, List.getElem_cons_succ, Act.put, List.setIfInBounds_toArray, List.set_cons_zero, List.set_cons_succ]
      refine wpAnyH_take (i := 17) (oi := _) (v := ?_) rfl (by kernel_rfl) (by kernel_rfl) (by kernel_rfl) (fun _ _ _ h => h) (Or.inl ⟨by rfl, ?_⟩) (by assumption) ?_
      rotate_left
      focus (intro w hSw; (try dsimp only at hSw); go_simp; try (with_reducible rfl))
      try simp only [List.getElem_toArray, List.getElem_cons_zero, List.getElem_cons_succ, Act.put, List.setIfInBounds_toArray, List.set_cons_zero, List.set_cons_succ]
      refine wpAnyH_take (i := 18) (oi := _) (v := ?_) rfl (by kernel_rfl) (by kernel_rfl) (by kernel_rfl) (fun _ _ _ h => h) (Or.inl ⟨by rfl, ?_⟩) (by assumption) ?_
      rotate_left
      focus (intro w hSw; (try dsimp only at hSw); go_simp; try (with_reducible rfl))
      try simp only [List.getElem_toArray, List.getElem_cons_zero, List.getElem_cons_succ, Act.put, List.setIfInBounds_toArray, List.set_cons_zero, List.set_cons_succ]
      refine wpAnyH_done (by kernel_rfl) ?_ _
      refine NoPanic.normal ?_
      go_wp2_with fail
      apply bodyPost_ret
      · simp [results, Try.results22, go_sem, c0, c1, h0, h1, hc0]
        rfl
      · rfl
      · exact ⟨⟨n, _, ls, a, z, rfl, hls, HDO.out.1⟩, HDO.out.2.1⟩
    · go_simp
      have HDO := Lib.hid (HD.out.out (by omega) (Nat.le_refl _))
      have G5 := Lib.hid ((HD.out.boxG.setOther (a := ⟨w.heap.size, 0, none⟩) (by simp; omega) (.int .i64 n)).setOther (a := ⟨w.heap.size, 1, none⟩) (by simp; omega) (.slice ua ls.length uc))
      clear b0 b1 f0 f1 hb0 c0 c1 h0 h1 hc0
      have _b := box2 G5.out; have b0 := _b.1; have b1 := _b.2.1; have f0 := _b.2.2.1; have f1 := _b.2.2.2.1; have hb0 := _b.2.2.2.2; clear _b
      have _c := box2 HDO.out.2.2; have c0 := _c.1; have c1 := _c.2.1; have h0 := _c.2.2.1; have h1 := _c.2.2.2.1; have hc0 := _c.2.2.2.2; clear _c
      refine hK.out _ _ (by ((try dsimp only); (first | go_keep | exact ⟨b0, b1⟩))) (fun hHeld => ?_)
      clear hK K
      try simp only [List.getElem_toArray, List.getElem_cons_zero, List.getElem_cons_succ, Act.put, List.setIfInBounds_toArray, List.set_cons_zero, List.set_cons_succ]
      refine wpAnyH_take (i := 17) (oi := _) (v := ?_) rfl (by kernel_rfl) (by kernel_rfl) (by kernel_rfl) (fun _ _ _ h => h) (Or.inl ⟨by rfl, ?_⟩) (by assumption) ?_
      rotate_left
      focus (intro w hSw; (try dsimp only at hSw); go_simp; try (with_reducible rfl))
      try simp only [List.getElem_toArray, List.getElem_cons_zero, List.getElem_cons_succ, Act.put, List.setIfInBounds_toArray, List.set_cons_zero, List.set_cons_succ]
      refine wpAnyH_ready (rs := [15]) (by kernel_rfl) (by simp) ?_
      refine AllReadyH.cons (o := _) rfl (fun K hK => ?_) AllReadyH.nil
      go_simp
      refine hK.out _ _ (by ((try dsimp only); (first | go_keep | exact ⟨b0, b1⟩))) (fun hHeld => ?_)
      clear hK K
      try simp only [List.getElem_toArray, List.getElem_cons_zero, List.getElem_cons_succ, Act.put, List.setIfInBounds_toArray, List.set_cons_zero, List.set_cons_succ]
      refine wpAnyH_take (i := 18) (oi := _) (v := ?_) rfl (by kernel_rfl) (by kernel_rfl) (by kernel_rfl) (fun _ _ _ h => h) (Or.inl ⟨by rfl, ?_⟩) (by assumption) ?_
      rotate_left
      focus (intro w hSw; (try dsimp only at hSw); go_simp; try (with_reducible rfl))
      try simp only [List.getElem_toArray, List.getElem_cons_zero, List.getElem_cons_succ, Act.put, List.setIfInBounds_toArray, List.set_cons_zero, List.set_cons_succ]
      refine wpAnyH_done (by kernel_rfl) ?_ _
      refine NoPanic.normal ?_
      go_wp2_with fail
      apply bodyPost_ret
      · simp [results, Try.results22, go_sem, c0, c1, h0, h1, hc0]
        rfl
      · rfl
      · exact ⟨⟨n, _, ls, a, z, rfl, hls, HDO.out.1⟩, HDO.out.2.1⟩
  · go_simp
    go_at_call 50
    apply pick_op
    · exact HD.out.rd
    · exact by omega
    intro v4 x4 v4_0 v4_1 hR hG
    have hv4 : v4 < 6 := by omega
    replace HD := Lib.hid (HD.out.only hRB hGB (by omega) hG hR)
    clear hR hG
    clear b0 b1 f0 f1 hb0 c0 c1 h0 h1 hc0
    have _b := box2 HD.out.boxG; have b0 := _b.1; have b1 := _b.2.1; have f0 := _b.2.2.1; have f1 := _b.2.2.2.1; have hb0 := _b.2.2.2.2; clear _b
    have _c := box2 HD.out.boxR; have c0 := _c.1; have c1 := _c.2.1; have h0 := _c.2.2.1; have h1 := _c.2.2.2.1; have hc0 := _c.2.2.2.2; clear _c
    refine hK.out _ _ (by ((try dsimp only); (first | go_keep | exact ⟨b0, b1⟩))) (fun hHeld => ?_)
    clear hK K
    try simp only [List.getElem_toArray, List.getElem_cons_zero, List.getElem_cons_succ, Act.put, List.setIfInBounds_toArray, List.set_cons_zero, List.set_cons_succ]
    refine wpAnyH_ready (rs := [11, 16]) (by kernel_rfl) (by simp) ?_
    refine AllReadyH.cons (o := _) rfl (fun K hK => ?_) (AllReadyH.cons (o := _) rfl (fun K hK => ?_) AllReadyH.nil)
    · go_simp
      have hTB : x4.heap.size ≠ B := by have := rdLe_lt HD.out.rd; omega
      have hTw : ¬ x4.heap.size = w.heap.size := by have := rdLe_lt HD.out.rd; omega
      have BT := Lib.hid (box_new x4 #[.int .i64 0, .int .i64 99, .int .i64 100, .int .i64 (1 + v1), .int .i64 (1 + v2), .int .i64 (1 + v3)] 3)
      replace HD := Lib.hid (HD.out.alloc (.cells #[.int .i64 0, .int .i64 99, .int .i64 100, .int .i64 (1 + v1), .int .i64 (1 + v2), .int .i64 (1 + v3)] 3))
      clear b0 b1 f0 f1 hb0 c0 c1 h0 h1 hc0
      have _b := box2 HD.out.boxG; have b0 := _b.1; have b1 := _b.2.1; have f0 := _b.2.2.1; have f1 := _b.2.2.2.1; have hb0 := _b.2.2.2.2; clear _b
      have _c := box2 HD.out.boxR; have c0 := _c.1; have c1 := _c.2.1; have h0 := _c.2.2.1; have h1 := _c.2.2.2.1; have hc0 := _c.2.2.2.2; clear _c
      refine hK.out _ _ (by ((try dsimp only); (first | go_keep | exact ⟨b0, b1⟩))) (fun hHeld => ?_)
      clear hK K
      try simp only [List.getElem_toArray, List.getElem_cons_zero, List.getElem_cons_succ, Act.put, List.setIfInBounds_toArray, List.set_cons_zero, List.set_cons_succ]
      refine wpAnyH_take (i := 14) (oi := _) (v := ?_) rfl (by kernel_rfl) (by kernel_rfl) (by kernel_rfl) (fun _ _ _ h => h) (Or.inl ⟨by rfl, ?_⟩) (by assumption) ?_
      rotate_left
      focus (intro w hSw; (try dsimp only at hSw); go_simp; try (with_reducible rfl))
      try simp only [List.getElem_toArray, List.getElem_cons_zero, List.getElem_cons_succ, Act.put, List.setIfInBounds_toArray, List.set_cons_zero, List.set_cons_succ]
      obtain ⟨z, hz⟩ := box_pick6 BT.out v4_0 hv4
      refine wpAnyH_ready (rs := [15, 16]) (by kernel_rfl) (by simp) ?_
      refine AllReadyH.cons (o := _) rfl (fun K hK => ?_) (AllReadyH.cons (o := _) rfl (fun K hK => ?_) AllReadyH.nil)
      · go_simp
        refine hK.out _ _ (by ((try dsimp only); (first | go_keep | exact ⟨b0, b1⟩))) (fun hHeld => ?_)
        clear hK K
        try simp only [List.getElem_toArray, List.getElem_cons_zero, List.getElem_cons_succ, Act.put, List.setIfInBounds_toArray, List.set_cons_zero, List.set_cons_succ]
        refine wpAnyH_ready (rs := [16]) (by kernel_rfl) (by simp) ?_
        refine AllReadyH.cons (o := _) rfl (fun K hK => ?_) AllReadyH.nil
        go_simp
        have HDO := Lib.hid (HD.out.out (by omega) (Nat.le_refl _))
        have G5 := Lib.hid ((HD.out.boxG.setOther (a := ⟨w.heap.size, 0, none⟩) (by simp; omega) (.int .i64 n)).setOther (a := ⟨w.heap.size, 1, none⟩) (by simp; omega) (.slice ua ls.length uc))
        clear b0 b1 f0 f1 hb0 c0 c1 h0 h1 hc0
        have _b := box2 G5.out; have b0 := _b.1; have b1 := _b.2.1; have f0 := _b.2.2.1; have f1 := _b.2.2.2.1; have hb0 := _b.2.2.2.2; clear _b
        have _c := box2 HDO.out.2.2; have c0 := _c.1; have c1 := _c.2.1; have h0 := _c.2.2.1; have h1 := _c.2.2.2.1; have hc0 := _c.2.2.2.2; clear _c
        refine hK.out _ _ (by ((try dsimp only); (first | go_keep | exact ⟨b0, b1⟩))) (fun hHeld => ?_)
        clear hK K
        try simp only [List.getElem_toArray, List.getElem_cons_zero, List.getElem_cons_succ, Act.put, List.setIfInBounds_toArray, List.set_cons_zero, List.set_cons_succ]
        refine wpAnyH_take (i := 17) (oi := _) (v := ?_) rfl (by kernel_rfl) (by kernel_rfl) (by kernel_rfl) (fun _ _ _ h => h) (Or.inl ⟨by rfl, ?_⟩) (by assumption) ?_
        rotate_left
        focus (intro w hSw; (try dsimp only at hSw); go_simp; try (with_reducible rfl))
        try simp only [List.getElem_toArray, List.getElem_cons_zero, List.getElem_cons_succ, Act.put, List.setIfInBounds_toArray, List.set_cons_zero, List.set_cons_succ]
        refine wpAnyH_take (i := 18) (oi := _) (v := ?_) rfl (by kernel_rfl) (by kernel_rfl) (by kernel_rfl) (fun _ _ _ h => h) (Or.inl ⟨by rfl, ?_⟩) (by assumption) ?_
        rotate_left
        focus (intro w hSw; (try dsimp only at hSw); go_simp; try (with_reducible rfl))
        try simp only [List.getElem_toArray, List.getElem_cons_zero, List.getElem_cons_succ, Act.put, List.setIfInBounds_toArray, List.set_cons_zero, List.set_cons_succ]
        refine wpAnyH_done (by kernel_rfl) ?_ _
        refine NoPanic.normal ?_
        go_wp2_with fail
        apply bodyPost_ret
        · simp [results, Try.results22, go_sem, c0, c1, h0, h1, hc0]
          rfl
        · rfl
        · exact ⟨⟨n, _, ls, a, z, rfl, hls, HDO.out.1⟩, HDO.out.2.1⟩
      · go_simp
        have HDO := Lib.hid (HD.out.out (by omega) (Nat.le_refl _))
        have G5 := Lib.hid ((HD.out.boxG.setOther (a := ⟨w.heap.size, 0, none⟩) (by simp; omega) (.int .i64 n)).setOther (a := ⟨w.heap.size, 1, none⟩) (by simp; omega) (.slice ua ls.length uc))
        clear b0 b1 f0 f1 hb0 c0 c1 h0 h1 hc0
        have _b := box2 G5.out; have b0 := _b.1; have b1 := _b.2.1; have f0 := _b.2.2.1; have f1 := _b.2.2.2.1; have hb0 := _b.2.2.2.2; clear _b
        have _c := box2 HDO.out.2.2; have c0 := _c.1; have c1 := _c.2.1; have h0 := _c.2.2.1; have h1 := _c.2.2.2.1; have hc0 := _c.2.2.2.2; clear _c
        refine hK.out _ _ (by ((try dsimp only); (first | go_keep | exact ⟨b0, b1⟩))) (fun hHeld => ?_)
        clear hK K
        try simp only [List.getElem_toArray, List.getElem_cons_zero, List.getElem_cons_succ, Act.put, List.setIfInBounds_toArray, List.set_cons_zero, List.set_cons_succ]
        refine wpAnyH_take (i := 17) (oi := _) (v := ?_) rfl (by kernel_rfl) (by kernel_rfl) (by kernel_rfl) (fun _ _ _ h => h) (Or.inl ⟨by rfl, ?_⟩) (by assumption) ?_
        rotate_left
        focus (intro w hSw; (try dsimp only at hSw); go_simp; try (with_reducible rfl))
        try simp only [List.getElem_toArray, List.getElem_cons_zero, List.getElem_cons_succ, Act.put, List.setIfInBounds_toArray, List.set_cons_zero, List.set_cons_succ]
        refine wpAnyH_ready (rs := [15]) (by kernel_rfl) (by simp) ?_
        refine AllReadyH.cons (o := _) rfl (fun K hK => ?_) AllReadyH.nil
        go_simp
        refine hK.out _ _ (by ((try dsimp only); (first | go_keep | exact ⟨b0, b1⟩))) (fun hHeld => ?_)
        clear hK K
        try simp only [List.getElem_toArray, List.getElem_cons_zero, List.getElem_cons_succ, Act.put, List.setIfInBounds_toArray, List.set_cons_zero, List.set_cons_succ]
        refine wpAnyH_take (i := 18) (oi := _) (v := ?_) rfl (by kernel_rfl) (by kernel_rfl) (by kernel_rfl) (fun _ _ _ h => h) (Or.inl ⟨by rfl, ?_⟩) (by assumption) ?_
        rotate_left
        focus (intro w hSw; (try dsimp only at hSw); go_simp; try (with_reducible rfl))
        try simp only [List.getElem_toArray, List.getElem_cons_zero, List.getElem_cons_succ, Act.put, List.setIfInBounds_toArray, List.set_cons_zero, List.set_cons_succ]
        refine wpAnyH_done (by kernel_rfl) ?_ _
        refine NoPanic.normal ?_
        go_wp2_with fail
        apply bodyPost_ret
        · simp [results, Try.results22, go_sem, c0, c1, h0, h1, hc0]
          rfl
        · rfl
        · exact ⟨⟨n, _, ls, a, z, rfl, hls, HDO.out.1⟩, HDO.out.2.1⟩
    · go_simp
      have HDO := Lib.hid (HD.out.out (by omega) (Nat.le_refl _))
      have G5 := Lib.hid ((HD.out.boxG.setOther (a := ⟨w.heap.size, 0, none⟩) (by simp; omega) (.int .i64 n)).setOther (a := ⟨w.heap.size, 1, none⟩) (by simp; omega) (.slice ua ls.length uc))
      clear b0 b1 f0 f1 hb0 c0 c1 h0 h1 hc0
      have _b := box2 G5.out; have b0 := _b.1; have b1 := _b.2.1; have f0 := _b.2.2.1; have f1 := _b.2.2.2.1; have hb0 := _b.2.2.2.2; clear _b
      have _c := box2 HDO.out.2.2; have c0 := _c.1; have c1 := _c.2.1; have h0 := _c.2.2.1; have h1 := _c.2.2.2.1; have hc0 := _c.2.2.2.2; clear _c
      refine hK.out _ _ (by ((try dsimp only); (first | go_keep | exact ⟨b0, b1⟩))) (fun hHeld => ?_)
      clear hK K
      try simp only [List.getElem_toArray, List.getElem_cons_zero, List.getElem_cons_succ, Act.put, List.setIfInBounds_toArray, List.set_cons_zero, List.set_cons_succ]
      obtain ⟨x5, hx5⟩ : ∃ X, ((x4.setCell ⟨w.heap.size, 0, none⟩ (.int .i64 n)).setCell ⟨w.heap.size, 1, none⟩ (.slice ua ls.length uc)) = X := ⟨_, rfl⟩
      rw [hx5] at HDO G5 hHeld ⊢
      clear b0 b1 f0 f1 hb0 c0 c1 h0 h1 hc0
      clear hx5
      have _b := box2 G5.out; have b0 := _b.1; have b1 := _b.2.1; have f0 := _b.2.2.1; have f1 := _b.2.2.2.1; have hb0 := _b.2.2.2.2; clear _b
      have _c := box2 HDO.out.2.2; have c0 := _c.1; have c1 := _c.2.1; have h0 := _c.2.2.1; have h1 := _c.2.2.2.1; have hc0 := _c.2.2.2.2; clear _c
      refine wpAnyH_take (i := 17) (oi := _) (v := ?_) rfl (by kernel_rfl) (by kernel_rfl) (by kernel_rfl) (fun _ _ _ h => h) (Or.inl ⟨by rfl, ?_⟩) (by assumption) ?_
      rotate_left
      focus (intro w hSw; (try dsimp only at hSw); go_simp; try (with_reducible rfl))
      try simp only [List.getElem_toArray, List.getElem_cons_zero, List.getElem_cons_succ, Act.put, List.setIfInBounds_toArray, List.set_cons_zero, List.set_cons_succ]
      refine wpAnyH_ready (rs := [11]) (by kernel_rfl) (by simp) ?_
      refine AllReadyH.cons (o := _) rfl (fun K hK => ?_) AllReadyH.nil
      go_simp
      have BT := Lib.hid (box_new x5 #[.int .i64 0, .int .i64 99, .int .i64 100, .int .i64 (1 + v1), .int .i64 (1 + v2), .int .i64 (1 + v3)] 3)
      have hb5 : Below x5.heap.size x5 (x5.alloc (.cells #[.int .i64 0, .int .i64 99, .int .i64 100, .int .i64 (1 + v1), .int .i64 (1 + v2), .int .i64 (1 + v3)] 3)) := (Below.refl _ _).alloc (Nat.le_refl _) _
      replace G5 := Lib.hid (G5.out.alloc (.cells #[.int .i64 0, .int .i64 99, .int .i64 100, .int .i64 (1 + v1), .int .i64 (1 + v2), .int .i64 (1 + v3)] 3))
      replace HDO := Lib.hid (And.intro (HDO.out.1.below hb5 (Nat.le_refl _)) (And.intro (HDO.out.2.1.trans (hb5.mono HDO.out.2.1.size)) (HDO.out.2.2.alloc (.cells #[.int .i64 0, .int .i64 99, .int .i64 100, .int .i64 (1 + v1), .int .i64 (1 + v2), .int .i64 (1 + v3)] 3))))
      clear hb5
      clear b0 b1 f0 f1 hb0 c0 c1 h0 h1 hc0
      have _b := box2 G5.out; have b0 := _b.1; have b1 := _b.2.1; have f0 := _b.2.2.1; have f1 := _b.2.2.2.1; have hb0 := _b.2.2.2.2; clear _b
      have _c := box2 HDO.out.2.2; have c0 := _c.1; have c1 := _c.2.1; have h0 := _c.2.2.1; have h1 := _c.2.2.2.1; have hc0 := _c.2.2.2.2; clear _c
      refine hK.out _ _ (by ((try dsimp only); (first | go_keep | exact ⟨b0, b1⟩))) (fun hHeld => ?_)
      clear hK K
      try simp only [List.getElem_toArray, List.getElem_cons_zero, List.getElem_cons_succ, Act.put, List.setIfInBounds_toArray, List.set_cons_zero, List.set_cons_succ]
      refine wpAnyH_take (i := 14) (oi := _) (v := ?_) rfl (by kernel_rfl) (by kernel_rfl) (by kernel_rfl) (fun _ _ _ h => h) (Or.inl ⟨by rfl, ?_⟩) (by assumption) ?_
      rotate_left
      focus (intro w hSw; (try dsimp only at hSw); go_simp; try (with_reducible rfl))
      try simp only [List.getElem_toArray, List.getElem_cons_zero, List.getElem_cons_succ, Act.put, List.setIfInBounds_toArray, List.set_cons_zero, List.set_cons_succ]
      obtain ⟨z, hz⟩ := box_pick6 BT.out v4_0 hv4
      refine wpAnyH_ready (rs := [15]) (by kernel_rfl) (by simp) ?_
      refine AllReadyH.cons (o := _) rfl (fun K hK => ?_) AllReadyH.nil
      go_simp
      refine hK.out _ _ (by ((try dsimp only); (first | go_keep | exact ⟨b0, b1⟩))) (fun hHeld => ?_)
      clear hK K
      try simp only [List.getElem_toArray, List.getElem_cons_zero, List.getElem_cons_succ, Act.put, List.setIfInBounds_toArray, List.set_cons_zero, List.set_cons_succ]
      refine wpAnyH_take (i := 18) (oi := _) (v := ?_) rfl (by kernel_rfl) (by kernel_rfl) (by kernel_rfl) (fun _ _ _ h => h) (Or.inl ⟨by rfl, ?_⟩) (by assumption) ?_
      rotate_left
      focus (intro w hSw; (try dsimp only at hSw); go_simp; try (with_reducible rfl))
      try simp only [List.getElem_toArray, List.getElem_cons_zero, List.getElem_cons_succ, Act.put, List.setIfInBounds_toArray, List.set_cons_zero, List.set_cons_succ]
      refine wpAnyH_done (by kernel_rfl) ?_ _
      refine NoPanic.normal ?_
      go_wp2_with fail
      apply bodyPost_ret
      · simp [results, Try.results22, go_sem, c0, c1, h0, h1, hc0]
        rfl
      · rfl
      · exact ⟨⟨n, _, ls, a, z, rfl, hls, HDO.out.1⟩, HDO.out.2.1⟩
end Go.Proofs.Ytnnkdoomjkccgaa
