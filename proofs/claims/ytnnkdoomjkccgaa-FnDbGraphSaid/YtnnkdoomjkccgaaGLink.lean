/- Links and graphs of the laws: copies, comparisons, sizes, marks (mkgh.py). -/
import Derived.Test.YtnnkdoomjkccgaaMakeI
import Derived.Test.YtnnkdoomjkccgaaCells3
namespace Go.Proofs.Ytnnkdoomjkccgaa
set_option linter.unusedSimpArgs false
set_option linter.unusedVariables false
open Go.RowKit
theorem infoLk : (Try.prog.info? 46).map (fun i => (i.zero, i.size, i.bytes)) = some (some (.agg #[.int .i64 0, .int .i64 0, .int .i64 0]), 3, 24) := by kernel_rfl
theorem toLink (x y z : Int) (w : World) : Calls Try.prog 80 #[.agg #[.int .i64 x, .int .i64 y, .int .i64 z]] w fun e w' => e = .returned (.agg #[.int .i64 x, .int .i64 y, .int .i64 z]) ∧ ((w.alloc (.cells #[.int .i64 x, .int .i64 y, .int .i64 z] 109)).alloc (.cells #[.int .i64 x, .int .i64 y, .int .i64 z] 46)).alloc (.cells #[.int .i64 x, .int .i64 y, .int .i64 z] 46) = w' := by
  go_enter Try.func80, Try.ntmps80
  go_wp2
  exact bodyPost_ret (v := .agg #[.int .i64 x, .int .i64 y, .int .i64 z]) (by simp [results, Try.results80, go_sem]) rfl ⟨rfl, rfl⟩
theorem eqLink (x y z x' y' z' : Int) (w : World) : Calls Try.prog 72 #[.agg #[.int .i64 x, .int .i64 y, .int .i64 z], .agg #[.int .i64 x', .int .i64 y', .int .i64 z']] w fun e w' => e = .returned (.bool (eqB (x, y, z) (x', y', z'))) ∧ Below w.heap.size w w' := by
  rcases Bool.eq_false_or_eq_true (x == x') with h | h
  all_goals
    have h1 : (x != x') = !(x == x') := rfl
    rw [h] at h1
    rcases Bool.eq_false_or_eq_true (y == y') with k | k
    all_goals
      have k1 : (y != y') = !(y == y') := rfl
      rw [k] at k1
      rcases Bool.eq_false_or_eq_true (z == z') with l | l
      all_goals
        have l1 : (z != z') = !(z == z') := rfl
        rw [l] at l1
        go_enter Try.func72, Try.ntmps72
        go_wp2
        go_ret
        exact ⟨ret_bool (by simp at h k l; simp [eqB, h, k, l]), (by with_reducible (repeat (first | (refine below_drewN ?_ _) | (refine Below.drew ?_) | (refine below_alloc ?_ (by first | omega | (simp; done) | (simp; omega)) _) | (refine Below.setCell ?_ (by first | omega | (simp; done) | (simp; omega)) _) | exact Below.refl _ _ | assumption | (refine below_call ?_ (by first | omega | (simp; done) | (simp; omega)) (by assumption)))))⟩
set_option maxHeartbeats 1000000 in
theorem eqLinkS (xs ys : List (Int × Int × Int)) (v u : Value) (w : World) (hv : TriplesAt w v xs) (hu : TriplesAt w u ys) :
    Calls Try.prog 44 #[v, u] w fun e w' => e = .returned (.bool (eqB xs ys)) ∧ Below w.heap.size w w' := by
  obtain ⟨a, cap, b, off, rfl, hcap, hmax, ha, hc⟩ := hv
  obtain ⟨a2, cap2, b2, off2, rfl, hcap2, hmax2, ha2, hc2⟩ := hu
  unfold maxLen at hmax hmax2
  obtain ⟨n, hn⟩ : ∃ n, n = xs.length := ⟨_, rfl⟩
  obtain ⟨n2, hn2⟩ : ∃ n2, n2 = ys.length := ⟨_, rfl⟩
  rw [← hn] at hcap ha ⊢
  rw [← hn2] at hcap2 ha2 ⊢
  have HN := Lib.hid hn; clear hn
  have HC := Lib.hid hc; clear hc
  have HA := Lib.hid ha; clear ha
  have HN2 := Lib.hid hn2; clear hn2
  have HC2 := Lib.hid hc2; clear hc2
  have HA2 := Lib.hid ha2; clear ha2
  by_cases hl : n = n2
  rotate_left
  · have hlb : ((n:Int) != (n2:Int)) = true := by simp; omega
    have hlb2 : ((n:Int) == (n2:Int)) = false := by simp; omega
    have HL := Lib.hid hl; clear hl
    go_enter Try.func44, Try.ntmps44
    go_wp2
    go_ret
    exact ⟨ret_bool (by have h1 := HN.out; have h2 := HN2.out; have : xs ≠ ys := fun e => HL.out (by rw [h1, h2, e]); simp [eqB, this]), (by with_reducible (repeat (first | (refine below_drewN ?_ _) | (refine Below.drew ?_) | (refine below_alloc ?_ (by first | omega | (simp; done) | (simp; omega)) _) | (refine Below.setCell ?_ (by first | omega | (simp; done) | (simp; omega)) _) | exact Below.refl _ _ | assumption | (refine below_call ?_ (by first | omega | (simp; done) | (simp; omega)) (by assumption)))))⟩
  subst hl
  have hlb : ((n:Int) != (n:Int)) = false := by simp
  have hlb2 : ((n:Int) == (n:Int)) = true := by simp
  go_enter Try.func44, Try.ntmps44
  go_wp2
  go_loopw [5] (fun i wr => ∃ k : Nat, k ≤ n ∧ i = .int .i64 k ∧ Hid (∀ j, j < k → xs[j]? = ys[j]?) ∧ Below w.heap.size w wr)
    (fun i _ => n - (intOf i).toNat)
  case atStart => exact ⟨0, Nat.zero_le _, rfl, Lib.hid (fun j hj => by omega), Below.refl _ _⟩
  case round =>
    obtain ⟨k, hk, rfl, HI, HB⟩ := hrel
    by_cases hkn : k < n
    · obtain ⟨⟨x, y, z⟩, hxy⟩ := at_lt HN.out hkn
      obtain ⟨⟨x2, y2, z2⟩, hxy2⟩ := at_lt HN2.out hkn
      have ha := HA.out (by omega)
      have ha2 := HA2.out (by omega)
      subst ha ha2
      obtain ⟨d0, d1, d4⟩ := HC.out k x y z hxy
      obtain ⟨d2, d3, d5⟩ := HC2.out k x2 y2 z2 hxy2
      obtain ⟨I, φ, h0, hφ, hmk⟩ := famOf w.heap.size wr
      haveI : Nonempty I := h0.elim fun i _ => ⟨i⟩
      have e0 : ∀ i, (φ i).cell? ⟨b, off + k * 3, none⟩ = some (.int .i64 x) := fun i => cell_below (hφ i) (cell_below HB d0 (cell_lt d0)) (cell_lt d0)
      have e1 : ∀ i, (φ i).cell? ⟨b, off + k * 3 + 1, none⟩ = some (.int .i64 y) := fun i => cell_below (hφ i) (cell_below HB d1 (cell_lt d0)) (cell_lt d0)
      have e2 : ∀ i, (φ i).cell? ⟨b2, off2 + k * 3, none⟩ = some (.int .i64 x2) := fun i => cell_below (hφ i) (cell_below HB d2 (cell_lt d2)) (cell_lt d2)
      have e3 : ∀ i, (φ i).cell? ⟨b2, off2 + k * 3 + 1, none⟩ = some (.int .i64 y2) := fun i => cell_below (hφ i) (cell_below HB d3 (cell_lt d2)) (cell_lt d2)
      have e4 : ∀ i, (φ i).cell? ⟨b, off + k * 3 + 2, none⟩ = some (.int .i64 z) := fun i => cell_below (hφ i) (cell_below HB d4 (cell_lt d0)) (cell_lt d0)
      have e5 : ∀ i, (φ i).cell? ⟨b2, off2 + k * 3 + 2, none⟩ = some (.int .i64 z2) := fun i => cell_below (hφ i) (cell_below HB d5 (cell_lt d2)) (cell_lt d2)
      have HX := Lib.hid hxy
      have HX2 := Lib.hid hxy2
      have HBs := Lib.hid HB.size
      have H0 := Lib.hid h0
      have HF := Lib.hid hφ
      have HM := Lib.hid hmk
      have hkI : (k:Int) < (n:Int) := by omega
      clear hxy hxy2 d0 d1 d2 d3 d4 d5 h0 hφ hmk
      go_wp2_with fail
      refine wp_region_fam φ H0.out (by kernel_rfl) (by kernel_rfl) ?_
      rcases Bool.eq_false_or_eq_true (eqB (x, y, z) (x2, y2, z2)) with hq | hq
      all_goals
        have HQ := Lib.hid hq
        repeat (go_big_quiet_step ((go_at_call 72; exact quiet_fam HF.out HBs.out HM.out (eqLink _ _ _ _ _ _ _))))
        refine wpQuiet_nil ?_
        intro _ hw'
        obtain ⟨nq, hw''⟩ := hw'
        subst hw''
        go_wp2_with fail
      · go_roundw
        case rel =>
          refine ⟨k + 1, by omega, by go_num, Lib.hid (fun j hj => ?_), HB.trans (HF.out nq)⟩
          rcases Nat.lt_or_ge j k with h1 | h1
          · exact HI.out j h1
          · obtain rfl : j = k := by omega
            have := HQ.out
            simp [eqB] at this
            rw [HX.out, HX2.out, this.1, this.2.1, this.2.2]
        case measure => simp [intOf]; omega
      · go_ret
        refine ⟨ret_bool ?_, HB.trans (HF.out nq)⟩
        have : xs ≠ ys := fun e => by
          have h1 := HX.out; have h2 := HX2.out
          rw [e] at h1
          rw [h1] at h2
          injection h2 with h2
          have := HQ.out
          rw [h2] at this
          simp [eqB] at this
        simp [eqB, this]
    · go_wp2
      go_ret
      refine ⟨ret_bool ?_, HB⟩
      have : xs = ys := by
        apply List.ext_getElem?
        intro j
        by_cases hj : j < n
        · exact HI.out j (by omega)
        · rw [List.getElem?_eq_none (by have := HN.out; omega), List.getElem?_eq_none (by have := HN2.out; omega)]
      simp [eqB, this]
theorem szLinkS (es : List (Int × Int × Int)) (v : Value) (left : Int) (w : World) (hv : TriplesAt w v es) (h0 : 0 ≤ left) (h1 : left ≤ 1048576) :
    Calls Try.prog 62 #[v, .int .i64 left] w fun e w' => e = .returned (.int .i64 (if (es.length : Int) ≤ left then left - es.length else -1)) ∧ w = w' := by
  obtain ⟨a, cap, b, off, rfl, hcap, hmax, ha, hc⟩ := hv
  unfold maxLen at hmax
  obtain ⟨n, hn⟩ : ∃ n, n = es.length := ⟨_, rfl⟩
  rw [← hn] at hcap ha ⊢
  clear hc ha hn
  by_cases hl : (n:Int) ≤ left
  · go_enter Try.func62, Try.ntmps62
    go_wp2
    go_ret
    exact ⟨rfl, rfl⟩
  · go_enter Try.func62, Try.ntmps62
    go_wp2
    go_ret
    exact ⟨rfl, rfl⟩
set_option maxHeartbeats 400000 in
theorem toLinkS (es : List (Int × Int × Int)) (v : Value) (w : World) (hv : TriplesAt w v es) (hl : es.length ≤ 1048576) : Calls Try.prog 63 #[v] w (MadeTriples w 46 es) := by
  obtain ⟨a, cap, b, off, rfl, hcap, hmax, ha, hc⟩ := hv
  unfold maxLen at hmax
  obtain ⟨i0, hi, hz0, hz1, hz2⟩ := info_parts infoLk
  obtain ⟨n, hn⟩ : ∃ n, n = es.length := ⟨_, rfl⟩
  obtain ⟨B, hB⟩ : ∃ B, w.heap.size = B := ⟨_, rfl⟩
  rw [← hn] at hcap ha hl ⊢
  have hby : i0.bytes * n ≤ 281474976710656 := by rw [hz2]; omega
  have HN := Lib.hid hn; clear hn
  have HB := Lib.hid hB; clear hB
  have HC := Lib.hid hc; clear hc
  have HA := Lib.hid ha; clear ha
  have HL := Lib.hid hl
  clear hl
  have HI := Lib.hid hi; have HZ0 := Lib.hid hz0; have HZ1 := Lib.hid hz1; have HY := Lib.hid hby
  clear hi hz0 hz1 hz2 hby
  go_enter Try.func63, Try.ntmps63
  go_wp2_with (at_make; refine wpList_make_full _ rfl _ _ 24 rfl w.heap.size 46 i0 (.agg #[.int .i64 0, .int .i64 0, .int .i64 0]) 3 Try.underlying24 HI.out HZ0.out HZ1.out _ _ _ _ n rfl rfl rfl rfl HY.out (by unfold maxLen; have := HL.out; omega) (Nat.le_refl _) ?_; intro w1 hown hgr)
  rw [HB.out]
  have HF := Lib.hid (filled_made hown); have HBl := Lib.hid (below_none hgr)
  rw [HB.out] at HF HBl
  clear hown hgr
  go_loopw [4] (fun i wr => ∃ k : Nat, k ≤ n ∧ i = .int .i64 k ∧ Filled wr B 46 (n * 3) (cells3 (es.take k)) ∧ Below B w wr)
    (fun i _ => n - (intOf i).toNat)
  case atStart => exact ⟨0, Nat.zero_le _, rfl, HF.out, HBl.out⟩
  case round =>
    obtain ⟨k, hk, rfl, hf, hb⟩ := hrel
    clear HF HBl
    have hl := HL.out
    by_cases hkn : k < n
    · obtain ⟨⟨x, y, z⟩, hx⟩ := at_lt HN.out hkn
      have ha := HA.out (by omega)
      subst ha
      obtain ⟨d0, d1, d2⟩ := HC.out k x y z hx
      have hbB : b < B := by rw [← HB.out]; exact cell_lt d0
      have e0 := cell_below hb d0 hbB
      have e1 := cell_below hb d1 hbB
      have e2 := cell_below hb d2 hbB
      obtain ⟨u0, g0⟩ := hf.cell (k * 3) (by omega)
      obtain ⟨u1, g1⟩ := hf.cell (k * 3 + 1) (by omega)
      obtain ⟨u2, g2⟩ := hf.cell (k * 3 + 2) (by omega)
      have f0 := hf.frozen (k * 3)
      have f1 := hf.frozen (k * 3 + 1)
      have f2 := hf.frozen (k * 3 + 2)
      have hne : b ≠ B := by omega
      have hlt := hf.lt
      have HX := Lib.hid hx; clear hx d0 d1 d2
      have HF := Lib.hid hf; clear hf
      have hlt1 : B < wr.heap.size + 1 := by omega
      have hlt2 : B < wr.heap.size + 1 + 1 := by omega
      go_wp2_with (go_at_call 80; refine (toLink _ _ _ _).mono ?_; rintro e w' ⟨rfl, rfl⟩)
      go_roundw
      case rel =>
        have hBw : B ≤ w.heap.size := by rw [HB.out]; exact Nat.le_refl _
        refine ⟨k + 1, by omega, by go_num, ?_, (by with_reducible (repeat (first | (refine below_drewN ?_ _) | (refine Below.drew ?_) | (refine below_alloc ?_ (by first | omega | (simp; done) | (simp; omega)) _) | (refine Below.setCell ?_ (by first | omega | (simp; done) | (simp; omega)) _) | exact Below.refl _ _ | assumption | (refine below_call ?_ (by first | omega | (simp; done) | (simp; omega)) (by assumption)))))⟩
        rw [take_succ3 HX.out]
        have hlen : (cells3 (es.take k)).length = k * 3 := by rw [cells3_len, List.length_take]; have := HN.out; omega
        exact (((((HF.out.set hlen.symm (by omega) _).set (by simp [hlen]) (by omega) _).set (by simp [hlen]) (by omega) _).alloc _).alloc _).alloc _
      case measure => simp [intOf]; omega
    · obtain rfl : k = n := by omega
      go_wp2
      go_ret
      refine ⟨_, rfl, ?_, by rw [HB.out]; exact hb⟩
      rw [List.take_of_length_le (by have := HN.out; omega)] at hf
      have hlt := hf.lt
      rw [← HN.out, HB.out]
      exact hf.shut (by rw [cells3_len]; rw [HN.out]) (Nat.le_refl _) hlt (Nat.le_refl _) (by unfold maxLen; omega)
def MarkLinksPost (w : World) (lo hi : Nat) (v : Value) (n : Nat) (k : Int) (e : Ending) (w' : World) : Prop :=
  e = .returned (.int .i64 (k + 3 * n)) ∧ OwnR w' lo hi 46 3 v n (cells3 (markT k n)) ∧ w.grownBy w' v.ownBlock
set_option maxHeartbeats 1000000 in
theorem markLinkS_any (lo hi : Nat) (v : Value) (n : Nat) (xs : List Value) (k : Int) (w : World) (h : OwnR w lo hi 46 3 v n xs) (hk : 0 ≤ k) (hk1 : k + 3 * n ≤ 1000000000000) : Calls Try.prog 46 #[v, .int .i64 k] w (MarkLinksPost w lo hi v n k) := by
  rcases h.open_ with ⟨rfl, rfl⟩ | ⟨g, cap, rfl, hlo, hhi, hnc, hcm, hF⟩
  · have hx : xs = [] := List.eq_nil_of_length_eq_zero (by have := h.1.1; simpa using this)
    subst hx
    have H := Lib.hid h
    have hd : decide (((0:Nat):Int) < ((0:Nat):Int)) = false := by simp
    clear h
    go_enter Try.func46, Try.ntmps46
    go_wp2_with fail
    refine wp_loop_rounds 1 ?_
    rw [rounds_succ]
    go_wp2_with fail
    go_ret
    exact ⟨ret_int (by simp), H.out, only_refl _ _⟩
  · have hcm2 : cap ≤ 9223372036854775807 := by unfold maxLen at hcm; omega
    have HF := Lib.hid hF
    clear h hF
    go_enter Try.func46, Try.ntmps46
    go_wp2_with fail
    go_loopw [1, 5] (fun c i wr => ∃ j : Nat, j ≤ n ∧ i = .int .i64 j ∧ c = .int .i64 (k + 3 * j) ∧ Filled wr g 46 (cap * 3) (cells3 (markT k j)) ∧ w.grownBy wr (some g)) (fun _ i _ => n - (intOf i).toNat)
    case atStart => exact ⟨0, Nat.zero_le _, rfl, by simp, HF.out, only_refl _ _⟩
    case round =>
      obtain ⟨j, hj, rfl, rfl, hf, hg⟩ := hrel
      clear HF
      by_cases hjn : j < n
      · obtain ⟨u0, c0⟩ := hf.cell (j * 3) (by omega)
        obtain ⟨u1, c1⟩ := hf.cell (j * 3 + 1) (by omega)
        obtain ⟨u2, c2⟩ := hf.cell (j * 3 + 2) (by omega)
        have f0 := hf.frozen (j * 3)
        have f1 := hf.frozen (j * 3 + 1)
        have f2 := hf.frozen (j * 3 + 2)
        have hjI : (j : Int) < (n : Int) := by omega
        have HF := Lib.hid hf; have HG := Lib.hid hg
        clear hf hg
        go_wp2_with fail
        go_roundw
        case rel =>
          refine ⟨j + 1, by omega, by go_num, ?_, ?_, only_setCell (only_setCell (only_setCell HG.out (.inl rfl) _) (.inl rfl) _) (.inl rfl) _⟩
          · first | rfl | (congr 1; push_cast; omega) | go_num
          · rw [markT_snoc, cells3_snoc]
            have hlen : (cells3 (markT k j)).length = j * 3 := by rw [cells3_len, markT_len]
            have h1 := HF.out.set (i := j * 3) hlen.symm (by omega) (.int .i64 (k + 3 * (j:Int)))
            have h2 := h1.set (i := j * 3 + 1) (by simp [hlen]) (by omega) (.int .i64 (k + 3 * (j:Int) + 1))
            exact h2.set (i := j * 3 + 2) (by simp [hlen]) (by omega) _
        case measure => simp [intOf]; omega
      · obtain rfl : j = n := by omega
        go_wp2_with fail
        go_ret
        refine ⟨rfl, ?_, hg⟩
        exact hf.shut (by rw [cells3_len, markT_len]) hlo hhi hnc hcm
end Go.Proofs.Ytnnkdoomjkccgaa
