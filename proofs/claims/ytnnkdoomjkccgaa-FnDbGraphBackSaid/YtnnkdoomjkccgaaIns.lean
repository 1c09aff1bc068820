/- slices.Insert of one announcement into a row of the call's own. -/
import Derived.Test.YtnnkdoomjkccgaaMd
import Derived.Test.YtnnkdoomjkccgaaCopyK
namespace Go.Proofs.Ytnnkdoomjkccgaa
set_option linter.unusedSimpArgs false
set_option linter.unusedVariables false
open Go.RowKit

theorem shape_of {w : World} {b : Nat} {c : Array Value} {t : TypeId} (h : w.heap[b]? = some (.cells c t (0, 0))) : w.shape? b = some (t, c.size) := by simp [World.shape?, h]
theorem frozen_of {w : World} {b : Nat} {c : Array Value} {t : TypeId} (h : w.heap[b]? = some (.cells c t (0, 0))) (i : Nat) : w.frozen? ⟨b, i, none⟩ = false := by simp [World.frozen?, h]
set_option maxRecDepth 100000 in
set_option maxHeartbeats 1000000 in
theorem insert_room (lo g n c i vb : Nat) (xs : List Value) (x0 x1 x2 : Value) (w : World) (h : w.ownsRow lo 41 3 (.slice (some ⟨g, 0, none⟩) n c) n xs) (hi : i < n) (hroom : n + 1 ≤ c) (hb : Box w vb #[x0, x1, x2] 41) (hvb : vb ≠ g) (h0 : x0.oneCell' = true) (h1 : x1.oneCell' = true) (h2 : x2.oneCell' = true) (h1c : ∀ v ∈ xs, v.oneCell' = true) :
    Calls Try.prog 84 #[.slice (some ⟨g, 0, none⟩) n c, .int .i64 i, .slice (some ⟨vb, 0, none⟩) 1 1] w fun e w' =>
      ∃ v', e = .returned v' ∧ w'.ownsRow lo 41 3 v' (n + 1) (xs.take (i * 3) ++ [x0, x1, x2] ++ xs.drop (i * 3)) ∧ w.grownBy w' (some g) := by
  rcases h.2 with ⟨hq, _⟩ | ⟨g', c', cur, hq, hlo, hg, hnc, hm, hcs, ht⟩
  · simp at hq
  simp only [Value.slice.injEq, Option.some.injEq, Addr.mk.injEq, and_true, true_and] at hq
  obtain ⟨rfl, rfl⟩ := hq
  have hxl : xs.length = n * 3 := h.1
  have hc63 : c ≤ 9223372036854775807 := by unfold maxLen at hm; omega
  have hov : (callFunc 94 #[.slice (some ⟨vb, 0, none⟩) 1 1, .slice (some ⟨g, (i + 1) * 3, none⟩) (n - i) (c - (i + 1))]).run Try.prog w = .ok (.value (.bool false)) w := by
    rw [run_callFunc_extern Try.func94 (by kernel_rfl) (by kernel_rfl) (by kernel_rfl) (e := Extern.SlicesOverlaps.overlaps #[29, 29] #[4]) (by kernel_rfl),
      Lib.run_overlaps_apart w 29 4 41 Try.underlying29 3 (fun _ => rfl) ⟨vb, 0, none⟩ ⟨g, (i + 1) * 3, none⟩ 1 1 _ _ hvb 41 41 3 (c * 3) (shape_of hb) (by rw [shape_of hg, hcs]) (by omega) (frozen_of hb _) (frozen_of hb _)]
    rfl
  have hcell : ∀ j, j < c * 3 → (w.cell? ⟨g, j, none⟩).isSome = true := fun j hj => by
    simp only [World.cell?]; rw [hg]; simp [Array.getElem?_eq_getElem (show j < cur.size by omega)]
  have hxc : ∀ j v, xs[j]? = some v → w.cell? ⟨g, j, none⟩ = some v := fun j v hj => (h.cellAt j (by have := (List.getElem?_eq_some_iff.1 hj).1; omega)).trans hj
  have hdl : (xs.drop (i * 3)).length = (n - i) * 3 := by rw [List.length_drop, hxl]; omega
  have hsz : (Try.prog.info? 41).map (·.size) = some 3 := by kernel_rfl
  have hcp1 : ∀ (W : World), (∀ x, W.cell? x = w.cell? x) → (∀ x, W.frozen? x = w.frozen? x) → ∀ ty dc sc, (Builtin.copy_ #[29, 29] ty #[.slice (some ⟨g, (i + 1) * 3, none⟩) (n - i) dc, .slice (some ⟨g, i * 3, none⟩) (n + 1 - i) sc]).run Try.prog W = .ok (goInt (Nat.min (n + 1 - i) (n - i))) (W.setCells g ((i + 1) * 3) (xs.drop (i * 3))) := fun W hWc hWf ty dc sc =>
    run_copy_k W _ _ ty 41 3 g ((i + 1) * 3) (n - i) dc ⟨g, i * 3, none⟩ (n + 1 - i) sc (xs.drop (i * 3)) Try.underlying29 hsz (by rw [hdl]; congr 1; simp only [Nat.min_def]; split <;> omega)
      (fun j v hj => by rw [addr_add, hWc]; rw [List.getElem?_drop] at hj; exact hxc _ v hj)
      (fun j hj => by rw [hWc]; exact hcell _ (by omega)) (fun j hj => by rw [hWf]; exact frozen_of hg _) (fun v hv => h1c v (List.mem_of_mem_drop hv))
  obtain ⟨W1, hW1⟩ : ∃ W1, W1 = w.drew.setCells g ((i + 1) * 3) (xs.drop (i * 3)) := ⟨_, rfl⟩
  have hcp2 : ∀ (W : World), (∀ x, W.cell? x = W1.cell? x) → (∀ x, W.frozen? x = W1.frozen? x) → ∀ ty dc, (Builtin.copy_ #[29, 29] ty #[.slice (some ⟨g, i * 3, none⟩) (n + 1 - i) dc, .slice (some ⟨vb, 0, none⟩) 1 1]).run Try.prog W = .ok (goInt (Nat.min 1 (n + 1 - i))) (W.setCells g (i * 3) [x0, x1, x2]) := fun W hWc hWf ty dc =>
    run_copy_k W _ _ ty 41 3 g (i * 3) (n + 1 - i) dc ⟨vb, 0, none⟩ 1 1 [x0, x1, x2] Try.underlying29 hsz (by simp only [Nat.min_def]; split <;> first | rfl | omega)
      (fun j v hj => by
        rw [addr_add, hWc, hW1, World.cell?_setCells_out _ _ _ _ _ (fun h _ => absurd h hvb)]
        exact hb.cell _ v (by simpa using hj))
      (fun j hj => by
        rw [hWc, hW1]
        have hj3 : j < 3 := by simpa using hj
        exact isSome_setCells _ _ _ w.drew (fun q hq => hcell ((i + 1) * 3 + q) (by rw [hdl] at hq; omega)) _ (hcell (i * 3 + j) (by omega)))
      (fun j hj => by rw [hWf, hW1, World.frozen?_setCells]; exact frozen_of hg _) (by simp [h0, h1, h2])
  have hfin : ((W1.setCells g (i * 3) [x0, x1, x2]).ownsRow lo 41 3 (.slice (some ⟨g, 0, none⟩) (n + 1) c) (n + 1) (xs.take (i * 3) ++ [x0, x1, x2] ++ xs.drop (i * 3))) ∧ w.grownBy (W1.setCells g (i * 3) [x0, x1, x2]) (some g) := by
    have hxg : ∀ j, j < n * 3 → cur[j]? = xs[j]? := fun j hj => by
      have := congrArg (fun l : List Value => l[j]?) ht
      simpa [List.getElem?_take, hj] using this
    obtain ⟨c1, p1, p2, p3⟩ := heap_setCells (t := 41) (xs.drop (i * 3)) ((i + 1) * 3) w.drew cur hg (by rw [hdl]; omega)
    obtain ⟨c2, q1, q2, q3⟩ := heap_setCells (t := 41) [x0, x1, x2] (i * 3) _ c1 p1 (by simp; omega)
    refine ⟨?_, ?_⟩
    · rw [hW1]
      refine owns_of_heap q1 (by rw [q2, p2, hcs]) hlo hroom hm (by simp [hxl]; omega) fun j hj => ?_
      rw [q3 j, p3 j, hdl]
      simp only [List.length_cons, List.length_nil]
      rcases Nat.lt_or_ge j (i * 3) with h1 | h1
      · rw [if_neg (by omega), if_neg (by omega), hxg j (by omega), List.append_assoc, List.getElem?_append_left (by rw [List.length_take, hxl]; omega), List.getElem?_take, if_pos h1]
      · have hl : (xs.take (i * 3)).length = i * 3 := by rw [List.length_take, hxl]; omega
        rw [List.append_assoc, List.getElem?_append_right (by omega), hl]
        rcases Nat.lt_or_ge j (i * 3 + 3) with h2 | h2
        · rw [if_pos (by omega), List.getElem?_append_left (by simp; omega)]
        · rw [if_neg (by omega), if_pos (by omega), List.getElem?_append_right (by simp; omega)]
          congr 1
          simp
          omega
    · rw [hW1]
      exact grown_setCells _ _ _ (grown_setCells _ _ _ (only_drew (only_refl _ _)))
  have HFIN := Lib.hid hfin
  have HC1 := Lib.hid hcp1; have HC2 := Lib.hid hcp2; have HW1 := Lib.hid hW1
  have e1 : ((n:Int) == 0) = false := by simp; omega
  have hin : (i:Int) ≤ (n:Int) := by omega
  have e2 : ((i:Int) == (n:Int)) = false := by simp; omega
  have w1 : IntKind.i64.wrap ((n:Int) + 1) = (n:Int) + 1 := IntWalk.i64_in _ (by omega)
  have w2 : IntKind.i64.wrap ((i:Int) + 1) = (i:Int) + 1 := IntWalk.i64_in _ (by omega)
  have e3 : decide ((c:Int) < (n:Int) + 1) = false := by simp; omega
  have e4 : ((i:Int) + 1).toNat = i + 1 := by omega
  have e5 : ((n:Int) + 1).toNat = n + 1 := by omega
  have e6 : (0:Int) ≤ (n:Int) + 1 := by omega
  have e7 : (0:Int) ≤ (i:Int) + 1 := by omega
  have e8 : (n:Int) + 1 ≤ (c:Int) := by omega
  have e9 : (i:Int) + 1 ≤ (n:Int) + 1 := by omega
  have e10 : ¬ c = i := by omega
  have e11 : ¬ c = i + 1 := by omega
  have e12 : (i:Int) ≤ (n:Int) + 1 := by omega
  clear h hg hm hcs ht hcell hxc hdl hsz hcp1 hcp2 h1c hb hfin hW1
  go_enter Try.func84, Try.ntmps84
  go_wp2_with (simp only [hov])
  have r1 := HC1.out w.drew (fun _ => rfl) (fun _ => rfl) 3 (c - (i + 1)) (c - i)
  rw [← HW1.out] at r1
  have r2 := HC2.out W1 (fun _ => rfl) (fun _ => rfl) 3 (c - i)
  obtain ⟨W2, hW2⟩ : ∃ W2, W1.setCells g (i * 3) [x0, x1, x2] = W2 := ⟨_, rfl⟩
  rw [hW2] at r2
  have HW2 := Lib.hid hW2
  clear hW2
  go_region
  go_wp2_with fail
  go_ret
  have := HFIN.out
  rw [HW2.out] at this
  exact ⟨_, rfl, this⟩
set_option maxRecDepth 100000 in
set_option maxHeartbeats 1000000 in
theorem insert_end (lo n vb : Nat) (v : Value) (xs : List Value) (x0 x1 x2 : Value) (w : World) (h : w.ownsRow lo 41 3 v n xs) (hlo : lo ≤ w.heap.size) (hn : n ≤ 1048576) (hb : Box w vb #[x0, x1, x2] 41) (h0 : x0.oneCell' = true) (h1 : x1.oneCell' = true) (h2 : x2.oneCell' = true) :
    Calls Try.prog 84 #[v, .int .i64 n, .slice (some ⟨vb, 0, none⟩) 1 1] w fun e w' =>
      ∃ v', e = .returned v' ∧ w'.ownsRow lo 41 3 v' (n + 1) (xs ++ [x0, x1, x2]) ∧ w.grownBy w' v.ownBlock := by
  obtain ⟨i0, hi, hz0, hz1, hz2⟩ := info_parts infoL
  have HI := Lib.hid hi; have HZ0 := Lib.hid hz0; have HZ1 := Lib.hid hz1; have HZ2 := Lib.hid hz2
  have H := Lib.hid h; have HB := Lib.hid hb
  have hone : ∀ u ∈ [x0, x1, x2], u.oneCell' = true := by simp [h0, h1, h2]
  have HONE := Lib.hid hone
  have hc : (v = .slice none 0 0 ∧ n = 0) ∨ ∃ g c, v = .slice (some ⟨g, 0, none⟩) n c ∧ n ≤ c := by
    rcases h.2 with h | ⟨g, c, cur, h3, _, _, h4, _⟩
    · exact .inl h
    · exact .inr ⟨g, c, h3, h4⟩
  clear hi hz0 hz1 hz2 h hb hone h0 h1 h2
  rcases hc with ⟨rfl, rfl⟩ | ⟨g, c, rfl, hnc⟩
  · go_enter Try.func84, Try.ntmps84
    go_wp2_with (at_builtin; refine wpList_append_rd rfl _ _ _ rfl lo 41 i0 _ 3 40 Try.underlying29 HI.out HZ0.out HZ1.out HZ2.out rfl (by omega) (.slice none 0 0) 0 xs rfl H.out (some ⟨vb, 0, none⟩) 1 1 [x0, x1, x2] rfl (srcAt_one HB.out rfl) HONE.out (by unfold maxLen; omega) (by omega) hlo ?_; intro v' w1 hown hgrow hloc)
    have HO := Lib.hid hown; have HG := Lib.hid hgrow
    clear hown hgrow hloc
    go_wp2_with fail
    go_ret
    exact ⟨_, rfl, HO.out, HG.out⟩
  · have e1 : ((n:Int) == (n:Int)) = true := by simp
    go_enter Try.func84, Try.ntmps84
    go_wp2_with (at_builtin; refine wpList_append_rd rfl _ _ _ rfl lo 41 i0 _ 3 40 Try.underlying29 HI.out HZ0.out HZ1.out HZ2.out rfl (by omega) (.slice (some ⟨g, 0, none⟩) n c) n xs rfl H.out (some ⟨vb, 0, none⟩) 1 1 [x0, x1, x2] rfl (srcAt_one HB.out rfl) HONE.out (by unfold maxLen; omega) (by omega) hlo ?_; intro v' w1 hown hgrow hloc)
    all_goals
      have HO := Lib.hid hown; have HG := Lib.hid hgrow
      clear hown hgrow hloc
      go_wp2_with fail
      go_ret
      exact ⟨_, rfl, HO.out, HG.out⟩
set_option maxRecDepth 100000 in
set_option maxHeartbeats 1000000 in
theorem insert_grow (lo g n c i vb : Nat) (xs : List Value) (x0 x1 x2 : Value) (w : World) (h : w.ownsRow lo 41 3 (.slice (some ⟨g, 0, none⟩) n c) n xs) (hlo : lo ≤ w.heap.size) (hn : n ≤ 1048576) (hi : i < n) (hroom : c < n + 1) (hb : Box w vb #[x0, x1, x2] 41) (hvb : vb ≠ g) (h0 : x0.oneCell' = true) (h1 : x1.oneCell' = true) (h2 : x2.oneCell' = true) (h1c : ∀ v ∈ xs, v.oneCell' = true) :
    Calls Try.prog 84 #[.slice (some ⟨g, 0, none⟩) n c, .int .i64 i, .slice (some ⟨vb, 0, none⟩) 1 1] w fun e w' =>
      ∃ v', e = .returned v' ∧ w'.ownsRow lo 41 3 v' (n + 1) (xs.take (i * 3) ++ [x0, x1, x2] ++ xs.drop (i * 3)) ∧ w.grownBy w' (some g) := by
  obtain ⟨i0, hi0, hz0, hz1, hz2⟩ := info_parts infoL
  rcases h.2 with ⟨hq, _⟩ | ⟨g', c', cur, hq, hlg, hg, hnc, hm, hcs, ht⟩
  · simp at hq
  simp only [Value.slice.injEq, Option.some.injEq, Addr.mk.injEq, and_true, true_and] at hq
  obtain ⟨rfl, rfl⟩ := hq
  obtain rfl : c = n := by omega
  have hxl : xs.length = c * 3 := h.1
  have hgw : g < w.heap.size := (Array.getElem?_eq_some_iff.1 hg).1
  have hbw := Box.lt hb
  have hxc : ∀ j v, xs[j]? = some v → w.cell? ⟨g, j, none⟩ = some v := fun j v hj => (h.cellAt j (by have := (List.getElem?_eq_some_iff.1 hj).1; omega)).trans hj
  have htl : (xs.take (i * 3)).length = i * 3 := by rw [List.length_take, hxl]; omega
  have hdl : (xs.drop (i * 3)).length = (c - i) * 3 := by rw [List.length_drop, hxl]; omega
  have hsz : (Try.prog.info? 41).map (·.size) = some 3 := by kernel_rfl
  have hold : (Builtin.firstCells i0.size i (.slice (some ⟨g, 0, none⟩) i c)).run Try.prog w.drew = .ok (xs.take (i * 3)).toArray w.drew := by
    rw [hz1]
    exact run_firstCells_some w.drew 3 i ⟨g, 0, none⟩ i c (xs.take (i * 3)) htl (fun j v hj => by
      rw [addr_add, Nat.zero_add]
      rw [List.getElem?_take] at hj
      split at hj
      · exact hxc j v hj
      · cases hj)
  obtain ⟨G, hG⟩ : ∃ G, G = grownCap w (c + 1) c 41 := ⟨_, rfl⟩
  have hik : i + (c + 1 - i) = c + 1 := by omega
  have hGn : c + 1 ≤ G := by rw [hG]; exact grownCap_ge w _ _ _
  have hG63 : G ≤ maxLen := by rw [hG]; exact grownCap_le_maxLen w (c + 1) c 41 (by unfold maxLen; omega)
  obtain ⟨ROW, hROW⟩ : ∃ ROW : Array Value, ROW = (xs.take (i * 3)).toArray ++ Builtin.zeroCells (Value.agg #[.int .i64 0, .int .i64 0, .slice none 0 0]).cells (c + 1 - i) ++ Builtin.zeroCells (Value.agg #[.int .i64 0, .int .i64 0, .slice none 0 0]).cells (G - (c + 1)) := ⟨_, rfl⟩
  have hRl : ROW.size = G * 3 := by
    rw [hROW]
    simp only [Array.size_append, size_zeroCells, List.size_toArray, htl]
    simp [Value.cells]
    omega
  have hROWx : ∀ j, j < i * 3 → ROW[j]? = xs[j]? := fun j hj => by
    rw [hROW, Array.append_assoc, Array.getElem?_append_left (by simp only [List.size_toArray, htl]; exact hj), List.getElem?_toArray, List.getElem?_take, if_pos hj]
  have hrz : ∀ ty, (Builtin.append_ #[29, 3] ty #[.slice (some ⟨g, 0, none⟩) i c, .int .i64 ((c + 1 - i : Nat) : Int)]).run Try.prog w =
      .ok (.slice (some ⟨w.heap.size, 0, none⟩) (c + 1) G) (w.drew.alloc (.cells ROW 41)) := fun ty => by
    have h := Lib.run_append_grow_zeros w 29 3 ty 41 i0 _ .i64 .i64 Try.underlying29 Try.underlying3 hi0 hz0 (some ⟨g, 0, none⟩) i c (xs.take (i * 3)) hold (c + 1 - i) (by omega) (by omega) (by omega) (by omega) (by rw [hz2]; omega) (by rw [hz2, hik]; exact growslice_fits (by omega) (by omega))
    rw [hik, ← hG, ← hROW] at h
    exact h
  obtain ⟨W1, hW1⟩ : ∃ W1, W1 = w.drew.alloc (.cells ROW 41) := ⟨_, rfl⟩
  have hWN : W1.heap[w.heap.size]? = some (.cells ROW 41 (0, 0)) := by rw [hW1]; exact heap_alloc_new w.drew _
  have hBl : Below w.heap.size w W1 := by rw [hW1]; exact (Below.refl _ w).drew.alloc (Nat.le_refl _) _
  rw [← hW1] at hrz
  have hN : ∀ j, j < G * 3 → (W1.cell? ⟨w.heap.size, j, none⟩).isSome = true := fun j hj => by
    simp only [World.cell?]; rw [hWN]; simp [Array.getElem?_eq_getElem (show j < ROW.size by omega)]
  have hcpA : ∀ (W : World), (∀ x, W.cell? x = W1.cell? x) → (∀ x, W.frozen? x = W1.frozen? x) → ∀ ty dc, (Builtin.copy_ #[29, 29] ty #[.slice (some ⟨w.heap.size, i * 3, none⟩) (c + 1 - i) dc, .slice (some ⟨vb, 0, none⟩) 1 1]).run Try.prog W = .ok (goInt (Nat.min 1 (c + 1 - i))) (W.setCells w.heap.size (i * 3) [x0, x1, x2]) := fun W hWc hWf ty dc =>
    run_copy_k W _ _ ty 41 3 w.heap.size (i * 3) (c + 1 - i) dc ⟨vb, 0, none⟩ 1 1 [x0, x1, x2] Try.underlying29 hsz (by simp only [Nat.min_def]; split <;> first | rfl | omega)
      (fun j v hj => by rw [addr_add, hWc]; exact cell_below hBl (hb.cell _ v (by simpa using hj)) hbw)
      (fun j hj => by
        rw [hWc]
        have hj3 : j < 3 := by simpa using hj
        exact hN (i * 3 + j) (by omega))
      (fun j hj => by rw [hWf]; exact frozen_of hWN _) (by simp [h0, h1, h2])
  obtain ⟨W2, hW2⟩ : ∃ W2, W2 = W1.setCells w.heap.size (i * 3) [x0, x1, x2] := ⟨_, rfl⟩
  have hcpB : ∀ (W : World), (∀ x, W.cell? x = W2.cell? x) → (∀ x, W.frozen? x = W2.frozen? x) → ∀ ty dc sc, (Builtin.copy_ #[29, 29] ty #[.slice (some ⟨w.heap.size, (i + 1) * 3, none⟩) (c - i) dc, .slice (some ⟨g, i * 3, none⟩) (c - i) sc]).run Try.prog W = .ok (goInt (Nat.min (c - i) (c - i))) (W.setCells w.heap.size ((i + 1) * 3) (xs.drop (i * 3))) := fun W hWc hWf ty dc sc =>
    run_copy_k W _ _ ty 41 3 w.heap.size ((i + 1) * 3) (c - i) dc ⟨g, i * 3, none⟩ (c - i) sc (xs.drop (i * 3)) Try.underlying29 hsz (by rw [hdl]; congr 1; simp only [Nat.min_def]; split <;> omega)
      (fun j v hj => by
        rw [addr_add, hWc, hW2, World.cell?_setCells_out _ _ _ _ _ (fun h _ => absurd h (by show g ≠ w.heap.size; omega))]
        rw [List.getElem?_drop] at hj
        exact cell_below hBl (hxc _ v hj) hgw)
      (fun j hj => by
        rw [hWc, hW2]
        exact isSome_setCells _ _ _ W1 (fun q hq => hN (i * 3 + q) (by have hq3 : q < 3 := by simpa using hq
                                                                       omega)) _ (hN ((i + 1) * 3 + j) (by rw [hdl] at hj; omega)))
      (fun j hj => by rw [hWf, hW2, World.frozen?_setCells]; exact frozen_of hWN _) (fun v hv => h1c v (List.mem_of_mem_drop hv))
  obtain ⟨W3, hW3⟩ : ∃ W3, W3 = W2.drew.setCells w.heap.size ((i + 1) * 3) (xs.drop (i * 3)) := ⟨_, rfl⟩
  have hfin : (W3.ownsRow lo 41 3 (.slice (some ⟨w.heap.size, 0, none⟩) (c + 1) G) (c + 1) (xs.take (i * 3) ++ [x0, x1, x2] ++ xs.drop (i * 3))) ∧ w.grownBy W3 (some g) := by
    obtain ⟨c1, p1, p2, p3⟩ := heap_setCells (t := 41) [x0, x1, x2] (i * 3) W1 ROW hWN (by simp; omega)
    rw [← hW2] at p1
    obtain ⟨c2, q1, q2, q3⟩ := heap_setCells (t := 41) (xs.drop (i * 3)) ((i + 1) * 3) W2.drew c1 p1 (by rw [hdl]; omega)
    rw [← hW3] at q1
    refine ⟨?_, ?_⟩
    · refine owns_of_heap q1 (by rw [q2, p2, hRl]) hlo hGn hG63 (by simp [hxl]; omega) fun j hj => ?_
      rw [q3 j, p3 j, hdl]
      simp only [List.length_cons, List.length_nil]
      rcases Nat.lt_or_ge j (i * 3) with h1 | h1
      · rw [if_neg (by omega), if_neg (by omega), hROWx j h1, List.append_assoc, List.getElem?_append_left (by omega), List.getElem?_take, if_pos h1]
      · rw [List.append_assoc, List.getElem?_append_right (by omega), htl]
        rcases Nat.lt_or_ge j (i * 3 + 3) with h2 | h2
        · rw [if_neg (by omega), if_pos (by omega), List.getElem?_append_left (by simp; omega)]
        · rw [if_pos (by omega), List.getElem?_append_right (by simp; omega)]
          congr 1
          simp
          omega
    · have hgr : W1.grownBy W3 (some w.heap.size) := by
        rw [hW3, hW2]
        exact grown_setCells _ _ _ (only_drew (grown_setCells _ _ _ (only_refl _ _)))
      exact ⟨hgr.os.trans hBl.os, hgr.tape.trans hBl.tape, hgr.output.trans hBl.output, Nat.le_trans hBl.size hgr.size, fun i hi _ => (hgr.block i (Nat.lt_of_lt_of_le hi hBl.size) (by simp; omega)).trans (hBl.block i hi)⟩
  have HFIN := Lib.hid hfin
  have r1 := hrz 29
  have r2 := hcpA W1 (fun _ => rfl) (fun _ => rfl) 3 (G - i)
  rw [← hW2] at r2
  have r3 := hcpB W2.drew (fun _ => rfl) (fun _ => rfl) 3 (G - (i + 1)) (c - i)
  rw [← hW3] at r3
  have e1 : ((c:Int) == 0) = false := by simp; omega
  have hin : (i:Int) ≤ (c:Int) := by omega
  have e2 : ((i:Int) == (c:Int)) = false := by simp; omega
  have w1 : IntKind.i64.wrap ((c:Int) + 1) = (c:Int) + 1 := IntWalk.i64_in _ (by omega)
  have w2 : IntKind.i64.wrap ((i:Int) + 1) = (i:Int) + 1 := IntWalk.i64_in _ (by omega)
  have w3 : IntKind.i64.wrap ((c:Int) + 1 - (i:Int)) = ((c + 1 - i : Nat) : Int) := (IntWalk.i64_in _ (by omega)).trans (by omega)
  have e3 : decide ((c:Int) < (c:Int) + 1) = true := by simp; omega
  have e4 : ((i:Int) + 1).toNat = i + 1 := by omega
  have e5 : ((c:Int) + 1).toNat = c + 1 := by omega
  have e6 : (0:Int) ≤ (c:Int) + 1 := by omega
  have e7 : (0:Int) ≤ (i:Int) + 1 := by omega
  have e8 : (i:Int) ≤ (G:Int) := by omega
  have e9 : (i:Int) + 1 ≤ (c:Int) + 1 := by omega
  have e10 : ¬ G = i := by omega
  have e11 : ¬ G = i + 1 := by omega
  have e13 : ¬ c = i := by omega
  have e12 : (i:Int) ≤ (c:Int) + 1 := by omega
  have hGG : G ≤ 9223372036854775807 := by unfold maxLen at hG63; omega
  clear h hg hm hcs ht hxc hdl htl hsz hcpA hcpB h1c hb hfin hW1 hW2 hW3 hrz hold hG hROW hROWx hRl hG63 hWN hBl hN hi0 hz0 hz1 hz2
  go_enter Try.func84, Try.ntmps84
  go_wp2_with (first
    | (at_builtin; refine Lib.wpList_append_run _ rfl _ _ _ _ rfl _ _ rfl rfl _ _ r1 ?_)
    | (at_builtin; refine wpList_copy_runK _ rfl _ _ _ _ rfl _ _ rfl rfl r2 ?_))
  go_region
  go_wp2_with fail
  go_ret
  exact ⟨_, rfl, HFIN.out⟩

theorem insert_any (lo n i vb : Nat) (v : Value) (xs : List Value) (x0 x1 x2 : Value) (w : World) (h : w.ownsRow lo 41 3 v n xs) (hlo : lo ≤ w.heap.size) (hn : n ≤ 1048576) (hi : i ≤ n) (hb : Box w vb #[x0, x1, x2] 41) (hvb : v.ownBlock ≠ some vb) (h0 : x0.oneCell' = true) (h1 : x1.oneCell' = true) (h2 : x2.oneCell' = true) (h1c : ∀ v ∈ xs, v.oneCell' = true) :
    Calls Try.prog 84 #[v, .int .i64 i, .slice (some ⟨vb, 0, none⟩) 1 1] w fun e w' =>
      ∃ v', e = .returned v' ∧ w'.ownsRow lo 41 3 v' (n + 1) (xs.take (i * 3) ++ [x0, x1, x2] ++ xs.drop (i * 3)) ∧ w.grownBy w' v.ownBlock := by
  rcases Nat.lt_or_ge i n with hin | hin
  · rcases h.2 with ⟨_, h3⟩ | ⟨g, c, cur, rfl, _, _, hnc, _⟩
    · omega
    have hne : vb ≠ g := fun e => hvb (by rw [e]; rfl)
    rcases Nat.lt_or_ge c (n + 1) with hr | hr
    · exact insert_grow lo g n c i vb xs x0 x1 x2 w h hlo hn hin hr hb hne h0 h1 h2 h1c
    · exact insert_room lo g n c i vb xs x0 x1 x2 w h hin hr hb hne h0 h1 h2 h1c
  · obtain rfl : i = n := by omega
    have hl : xs.length = i * 3 := h.1
    rw [List.take_of_length_le (by omega), List.drop_of_length_le (by omega), List.append_nil]
    exact insert_end lo i vb v xs x0 x1 x2 w h hlo hn hb h0 h1 h2
theorem cellsL_one : ∀ (db : List LsaD) (us : List Value), (∀ u ∈ us, u.oneCell' = true) → ∀ v ∈ cellsL db us, v.oneCell' = true
  | [], _, _ => by simp [cellsL]
  | _ :: _, [], _ => by simp [cellsL]
  | (o, s, es) :: db, u :: us, h => by
    intro v hv
    simp only [cellsL, List.mem_cons] at hv
    rcases hv with rfl | rfl | rfl | hv
    · rfl
    · rfl
    · exact h _ (by simp)
    · exact cellsL_one db us (fun x hx => h x (by simp [hx])) v hv
theorem EndsOwn.one {w : World} {lo hi : Nat} {tE : TypeId} {db : List LsaD} {us : List Value} (h : EndsOwn w lo hi tE db us) : ∀ u ∈ us, u.oneCell' = true := by
  intro u hu
  obtain ⟨k, hk⟩ := List.getElem?_of_mem hu
  obtain ⟨⟨o, s, es⟩, hd⟩ := at_lt (l := db) (n := db.length) rfl (k := k) (by have := h.len; have := (List.getElem?_eq_some_iff.1 hk).1; omega)
  obtain ⟨a, c, rfl⟩ := own_slice (h.ends k o s es u hd hk).1
  rfl
end Go.Proofs.Ytnnkdoomjkccgaa
