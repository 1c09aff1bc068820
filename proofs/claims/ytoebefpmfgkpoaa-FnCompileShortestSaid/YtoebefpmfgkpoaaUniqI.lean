/- Whether a stack's way is unique: StackUnique of the reference: unqV. · Whether a stack's way is unique: StackUnique of the program (slices.ContainsFunc with its closure): unqV. -/
import Derived.Test.YtoebefpmfgkpoaaCnt
import Derived.Test.YtoebefpmfgkpoaaStkEnd
namespace Go.Proofs.Ytoebefpmfgkpoaa
set_option linter.unusedSimpArgs false
set_option linter.unusedVariables false
open Go.RowKit

def unqV (n : Int) (ls : List LinkD) (a : Int) (s : List LabelD) : Bool := match stkOf n ls a s with | none => false | some _ => uniqS n ls a s
theorem unqV_none {n : Int} {ls : List LinkD} {a : Int} {s : List LabelD} (h : stkOf n ls a s = none) : unqV n ls a s = false := by rw [unqV, h]
theorem unqV_some {n : Int} {ls : List LinkD} {a : Int} {s : List LabelD} {q : List Int} (h : stkOf n ls a s = some q) : unqV n ls a s = uniqS n ls a s := by rw [unqV, h]
theorem uniq_no {n : Int} {ls : List LinkD} : ∀ {s : List LabelD} {a : Int} (k : Nat), uniqS n ls a (s.take k) = false → uniqS n ls a s = false
  | [], a, k, h => by simpa using h
  | l :: s, a, 0, h => by simp [uniqS] at h
  | l :: s, a, k + 1, h => by
    simp only [List.take_succ_cons, uniqS, Bool.and_eq_false_iff] at h ⊢
    rcases h with h | h
    · exact .inl h
    · exact .inr (uniq_no k h)
set_option maxRecDepth 100000 in
set_option maxHeartbeats 4000000 in
theorem sStackUnique (n : Int) (ls : List LinkD) (a : Int) (s : List LabelD) (v u : Value) (w : World) (hv : TriplesAt w v ls) (hu : PairsAt w u s) :
    Calls Try.prog 36 #[.agg #[.int .i64 n, v], .int .i64 a, u] w fun e w' => e = .returned (.bool (unqV n ls a s)) ∧ Below w.heap.size w w' := by
  have HV := Lib.hid hv; have HU := Lib.hid hu
  obtain ⟨va, vm, vcap, rfl⟩ := hv.form
  obtain ⟨ua, ucap, ub, uoff, rfl, hucap, humax, hua, huc⟩ := hu
  obtain ⟨m, hm⟩ : ∃ m, m = s.length := ⟨_, rfl⟩
  rw [← hm] at hucap hua HU ⊢
  have HM := Lib.hid hm; have HUC := Lib.hid huc; have HUA := Lib.hid hua
  unfold maxLen at humax
  clear hm huc hua hv
  go_enter Try.func36, Try.ntmps36
  go_wp2_with fail
  refine (sStk n ls a s _ _ _ (HV.out.below (by with_reducible (repeat (first | (refine below_drewN ?_ _) | (refine Below.drew ?_) | (refine below_alloc ?_ (by first | omega | (simp; done) | (simp; omega)) _) | (refine Below.setCell ?_ (by first | omega | (simp; done) | (simp; omega)) _) | exact Below.refl _ _ | assumption | (refine below_call ?_ (by first | omega | (simp; done) | (simp; omega)) (by assumption))))) (Nat.le_refl _)) (HU.out.below (by with_reducible (repeat (first | (refine below_drewN ?_ _) | (refine Below.drew ?_) | (refine below_alloc ?_ (by first | omega | (simp; done) | (simp; omega)) _) | (refine Below.setCell ?_ (by first | omega | (simp; done) | (simp; omega)) _) | exact Below.refl _ _ | assumption | (refine below_call ?_ (by first | omega | (simp; done) | (simp; omega)) (by assumption))))) (Nat.le_refl _))).mono ?_
  rintro e w1 ⟨hno, hyes, hb⟩
  have G := Lib.hid (Box.call (b := w.heap.size) (c := #[.int .i64 n, .slice va vm vcap]) (t := 25) hb (by with_reducible (repeat (first | (refine box_at _ _ _ ?_; first | rfl | (simp; done)) | apply Box.alloc | apply Box.drewN | apply Box.drew))))
  obtain ⟨G_0, G_1, G_2, G_3, G_4⟩ := box2 G.out
  have BW := Lib.hid (below_call (B := w.heap.size) (a := w) (by with_reducible (repeat (first | (refine below_drewN ?_ _) | (refine Below.drew ?_) | (refine below_alloc ?_ (by first | omega | (simp; done) | (simp; omega)) _) | (refine Below.setCell ?_ (by first | omega | (simp; done) | (simp; omega)) _) | exact Below.refl _ _ | assumption | (refine below_call ?_ (by first | omega | (simp; done) | (simp; omega)) (by assumption))))) (Nat.le_refl _) hb)
  clear hb G_0 G_1 G_2 G_3 G_4
  rcases hs : stkOf n ls a s with _ | q
  · obtain ⟨A, m', c, rfl⟩ := hno hs
    clear hno hyes
    have HS := Lib.hid hs
    clear hs
    go_wp2_with fail
    by_cases hm0 : 0 < m
    · have t1 : decide ((0:Int) < (m:Int)) = true := decide_eq_true (by omega)
      go_loopw [8, 9] (fun okv i wr => okv = .bool false ∧ i = .int .i64 0 ∧ Below w.heap.size w wr) (fun _ _ _ => 0)
      case atStart => exact ⟨rfl, rfl, BW.out⟩
      case round =>
        obtain ⟨rfl, rfl, hB⟩ := hrel
        go_wp2_with fail
        go_ret
        exact ⟨ret_bool (unqV_none HS.out).symm, hB⟩
    · have t1 : decide ((0:Int) < (m:Int)) = false := decide_eq_false (by omega)
      go_loopw [8, 9] (fun okv i wr => okv = .bool false ∧ i = .int .i64 0 ∧ Below w.heap.size w wr) (fun _ _ _ => 0)
      case atStart => exact ⟨rfl, rfl, BW.out⟩
      case round =>
        obtain ⟨rfl, rfl, hB⟩ := hrel
        go_wp2_with fail
        go_ret
        exact ⟨ret_bool (unqV_none HS.out).symm, hB⟩
  obtain ⟨v, rfl, hO⟩ := hyes q hs
  clear hno hyes
  have HS := Lib.hid hs
  clear hs
  have hF := stkOf_some HS.out
  have hm8 : m ≤ 8 := by have := hF.len; have := HM.out; omega
  have hqm : q.length = m := by have := hF.qlen; have := HM.out; omega
  rw [hqm] at hO
  have HFA := Lib.hid hF
  obtain ⟨g1, c1, rfl, hlo⟩ := own_pos hO.1 (by omega)
  have HO := Lib.hid hO
  have HUV := Lib.hid (unqV_some HS.out)
  clear hF hO hlo
  go_wp2_with fail
  go_loopw [8, 9] (fun okv i wr => ∃ (k : Nat), k ≤ m ∧ i = .int .i64 k ∧ okv = .bool (uniqS n ls a (s.take k)) ∧ Below w.heap.size w wr ∧ Below w1.heap.size w1 wr) (fun _ i _ => m - (intOf i).toNat)
  case atStart => exact ⟨0, Nat.zero_le _, rfl, rfl, BW.out, Below.refl _ _⟩
  case round =>
    obtain ⟨k, hk, rfl, rfl, hB, hB1⟩ := hrel
    obtain ⟨U, hU⟩ : ∃ U, uniqS n ls a (s.take k) = U := ⟨_, rfl⟩
    rw [hU]
    have HUU := Lib.hid hU
    clear hU
    have HB := Lib.hid hB; have HB1 := Lib.hid hB1
    have hG := G.out.below hB1 G.out.lt
    clear hB hB1
    by_cases hkm : k < m
    rotate_left
    · have t1 : decide ((k:Int) < (m:Int)) = false := decide_eq_false (by omega)
      go_wp2_with fail
      go_ret
      refine ⟨ret_bool ?_, HB.out⟩
      rw [HUV.out, ← HUU.out, List.take_of_length_le (by have := HM.out; omega)]
    have t1 : decide ((k:Int) < (m:Int)) = true := decide_eq_true (by omega)
    cases U with
    | false =>
      go_wp2_with fail
      go_ret
      refine ⟨ret_bool ?_, HB.out⟩
      rw [HUV.out, uniq_no k HUU.out]
    | true =>
      obtain ⟨⟨lk, lx⟩, hx⟩ := at_lt HM.out hkm
      have hua := HUA.out (by omega)
      subst hua
      obtain ⟨d0, d1⟩ := HUC.out k lk lx hx
      have hbd := cell_lt d0
      have e0 := cell_below HB.out d0 hbd
      obtain ⟨x, y, hA⟩ := stk_at HFA.out.ok HFA.out.nd HFA.out.run hx
      have hO2 := (HO.out.below HB1.out (Nat.le_refl _)).1
      obtain ⟨r0, _⟩ := own_at hO2 hA.at_
      obtain ⟨r1, _⟩ := own_at hO2 (show (a :: q)[k + 1]? = some y by simpa using hA.next)
      have hkI : (k:Int) < (m:Int) := by omega
      have hkI3 : (k:Int) < (m:Int) + 1 := by omega
      have hkI2 : (k:Int) + 1 < (((m + 1 : Nat)) : Int) := by omega
      have hk0 : (0:Int) ≤ (k:Int) := by omega
      have hk01 : (0:Int) ≤ (k:Int) + 1 := by omega
      have hkk : ((k:Int) + 1).toNat = k + 1 := by omega
      have w3 : IntKind.i64.wrap ((k:Int) + 1) = (k:Int) + 1 := IntWalk.i64_in _ (by omega)
      have HAT := Lib.hid hA
      clear hx d0 d1 hA hO2
      go_wp2_with fail
      obtain ⟨I, φ, h0, hφ, hmk⟩ := famOf (wr).heap.size (wr)
      haveI : Nonempty I := h0.elim fun i _ => ⟨i⟩
      have H0 := Lib.hid h0; have HF := Lib.hid hφ; have HMK := Lib.hid hmk; have HBs : Hid ((wr).heap.size ≤ (wr).heap.size) := Lib.hid (Nat.le_refl _)
      clear h0 hφ hmk
      obtain ⟨G_0, G_1, G_2, G_3, G_4⟩ := box2F fun i => hG.below (HF.out i) hG.lt
      have g0 : ∀ j, (φ j).cell? ⟨ub, uoff + k * 2, none⟩ = some (.int .i64 lk) := fun j => cell_below (HF.out j) e0 (cell_lt e0)
      have g2 : ∀ j, (φ j).cell? ⟨g1, k, none⟩ = some (.int .i64 x) := fun j => cell_below (HF.out j) r0 (cell_lt r0)
      have g3 : ∀ j, (φ j).cell? ⟨g1, k + 1, none⟩ = some (.int .i64 y) := fun j => cell_below (HF.out j) r1 (cell_lt r1)
      clear r0 r1 e0
      by_cases h1 : lk = 1
      · subst h1
        have t2 : ((1:Int) == 2) = false := by simp
        obtain ⟨c, hc⟩ : ∃ c, cntG n ls x y = c := ⟨_, rfl⟩
        have HC : Hid (∀ i, Calls Try.prog 63 #[.agg #[.int .i64 n, .slice va vm vcap], .int .i64 x, .int .i64 y] (φ i) fun e w' => e = .returned (.int .i64 c) ∧ Below (φ i).heap.size (φ i) w') := Lib.hid fun i => by rw [← hc]; exact sCnt n ls x y _ _ (HV.out.below (HB.out.trans ((HF.out i).mono HB.out.size)) (Nat.le_refl _)) HFA.out.ok HAT.out.ndx HAT.out.ndy
        have HCC := Lib.hid hc
        clear hc
        by_cases hc1 : c = 1
        · have t3 : (c == 1) = true := by simpa using hc1
          have HC1 := Lib.hid hc1
          clear hc1
          refine wp_region_fam φ H0.out (by kernel_rfl) (by kernel_rfl) ?_
          repeat (go_big_quiet_step (first | (go_at_call 63; exact quiet_fam HF.out HBs.out HMK.out (HC.out _))))
          refine wpQuiet_nil ?_
          intro _ hw'
          obtain ⟨nq, hw''⟩ := hw'
          subst hw''
          have hb := HF.out nq
          obtain ⟨w4, hw2⟩ : ∃ x, φ nq = x := ⟨_, rfl⟩
          rw [hw2] at hb ⊢
          clear hw2
          have kk := Lib.hid hb
          clear hb
          go_wp2_with fail
          go_roundw
          case rel => exact ⟨k + 1, by omega, by go_num, by rw [HAT.out.uniq, HUU.out, HCC.out, HC1.out]; rfl, HB.out.trans (kk.out.mono HB.out.size), HB1.out.trans (kk.out.mono HB1.out.size)⟩
          case measure => simp [intOf]; omega
        · have t3 : (c == 1) = false := by simpa using hc1
          have HC1 := Lib.hid hc1
          clear hc1
          refine wp_region_fam φ H0.out (by kernel_rfl) (by kernel_rfl) ?_
          repeat (go_big_quiet_step (first | (go_at_call 63; exact quiet_fam HF.out HBs.out HMK.out (HC.out _))))
          refine wpQuiet_nil ?_
          intro _ hw'
          obtain ⟨nq, hw''⟩ := hw'
          subst hw''
          have hb := HF.out nq
          obtain ⟨w4, hw2⟩ : ∃ x, φ nq = x := ⟨_, rfl⟩
          rw [hw2] at hb ⊢
          clear hw2
          have kk := Lib.hid hb
          clear hb
          go_wp2_with fail
          go_roundw
          case rel => exact ⟨k + 1, by omega, by go_num, by rw [HAT.out.uniq, HUU.out, HCC.out]; simp [HC1.out], HB.out.trans (kk.out.mono HB.out.size), HB1.out.trans (kk.out.mono HB1.out.size)⟩
          case measure => simp [intOf]; omega
      · have h2 : lk = 2 := by
          rcases hop_cases HFA.out.ok HAT.out.hop with h2 | ⟨_, _, h2, _⟩
          · exact absurd h2.1 h1
          · exact h2
        subst h2
        have t2 : ((2:Int) == 2) = true := by simp
        refine wp_region_fam φ H0.out (by kernel_rfl) (by kernel_rfl) ?_
        repeat (go_big_quiet_step (fail))
        refine wpQuiet_nil ?_
        intro _ hw'
        obtain ⟨nq, hw''⟩ := hw'
        subst hw''
        have hb := HF.out nq
        obtain ⟨w4, hw2⟩ : ∃ x, φ nq = x := ⟨_, rfl⟩
        rw [hw2] at hb ⊢
        clear hw2
        have kk := Lib.hid hb
        clear hb
        go_wp2_with fail
        go_roundw
        case rel => exact ⟨k + 1, by omega, by go_num, by rw [HAT.out.uniq, HUU.out]; rfl, HB.out.trans (kk.out.mono HB.out.size), HB1.out.trans (kk.out.mono HB1.out.size)⟩
        case measure => simp [intOf]; omega
end Go.Proofs.Ytoebefpmfgkpoaa
namespace Go.Proofs.Ytoebefpmfgkpoaa
set_option linter.unusedSimpArgs false
set_option linter.unusedVariables false
open Go.RowKit

theorem below_set {Bi : Nat} {a w : World} (h : Below Bi a w) (k : Nat) (u : Value) : Below Bi a (w.setCell ⟨Bi, k, none⟩ u) := h.setCell (p := ⟨Bi, k, none⟩) (Nat.le_refl _) u
/-- The closure at the k-th label. -/
def UqOne (w : World) (Bi : Nat) (k : Int) (r : Bool) (e : Ending) (w' : World) : Prop := e = .returned (.bool r) ∧ Below Bi w w' ∧ Box w' Bi #[.int .i64 k] 3 ∧ w.heap.size ≤ w'.heap.size
set_option maxRecDepth 100000 in
set_option maxHeartbeats 2000000 in
theorem uqOne {n : Int} {ls : List LinkD} (x y lk lx : Int) (k Bi Gb Nb og M oc : Nat) (gv : Value) (w0 w : World) (hv : TriplesAt w0 gv ls) (hB : Below w0.heap.size w0 w) (h0I : w0.heap.size ≤ Bi) (h : GOk n ls) (hx : nd n.toNat x) (hy : nd n.toNat y)
    (hI : Box w Bi #[.int .i64 ((k:Int) - 1)] 3) (hG : Box w Gb #[.int .i64 n, gv] 25) (hN : Box w Nb #[.slice (some ⟨og, 0, none⟩) M oc] 26) (hGI : Gb < Bi) (hNI : Nb < Bi) (hoI : og < Bi)
    (hr0 : w.cell? ⟨og, k, none⟩ = some (.int .i64 x)) (hr1 : w.cell? ⟨og, k + 1, none⟩ = some (.int .i64 y)) (hkM : k + 1 < M) (hM : M ≤ 9) (hk12 : lk = 1 ∨ lk = 2) :
    Calls Try.prog 49 #[.agg #[.int .i64 lk, .int .i64 lx], .pointer (some ⟨Bi, 0, none⟩), .pointer (some ⟨Gb, 0, none⟩), .pointer (some ⟨Nb, 0, none⟩)] w (UqOne w Bi k (decide (lk = 1) && !decide (cntG n ls x y = 1))) := by
  have HV := Lib.hid hv; have HB := Lib.hid hB; have HGO := Lib.hid h; have HX := Lib.hid hx; have HY := Lib.hid hy
  obtain ⟨va, vm, vc, rfl⟩ := hv.form
  obtain ⟨i0, i1, hIl⟩ := box1 hI
  have hkw : IntKind.i64.wrap ((k:Int) - 1 + 1) = (k:Int) := by rw [IntWalk.i64_in _ (by omega)]; omega
  have hk0 : (0:Int) ≤ (k:Int) := by omega
  have hk1 : (0:Int) ≤ (k:Int) + 1 := by omega
  have hk2 : (k:Int) < (M:Int) := by omega
  have hk3 : (k:Int) + 1 < (M:Int) := by omega
  have hk4 : ((k:Int) + 1).toNat = k + 1 := by omega
  have hIw : Bi < w.heap.size + 1 := by omega
  have hIn : ¬ Bi = w.heap.size := by omega
  have hkb : (k:Int) - 1 + 1 = (k:Int) := by omega
  have H1 : Hid (Box ((w.setCell ⟨Bi, 0, none⟩ (.int .i64 (k:Int))).alloc (.cells #[.int .i64 lk, .int .i64 lx] 56)) Bi #[.int .i64 (k:Int)] 3) := Lib.hid (by have := (hI.set (o := 0) (.int .i64 (k:Int))).alloc (.cells #[.int .i64 lk, .int .i64 lx] 56); simpa using this)
  have H2 : Hid (Box ((w.setCell ⟨Bi, 0, none⟩ (.int .i64 (k:Int))).alloc (.cells #[.int .i64 lk, .int .i64 lx] 56)) Gb #[.int .i64 n, .slice va vm vc] 25) := Lib.hid ((hG.setOther (a := ⟨Bi, 0, none⟩) (by simp; omega) _).alloc _)
  have H3 : Hid (Box ((w.setCell ⟨Bi, 0, none⟩ (.int .i64 (k:Int))).alloc (.cells #[.int .i64 lk, .int .i64 lx] 56)) Nb #[.slice (some ⟨og, 0, none⟩) M oc] 26) := Lib.hid ((hN.setOther (a := ⟨Bi, 0, none⟩) (by simp; omega) _).alloc _)
  have H4 : Hid (Box ((w.setCell ⟨Bi, 0, none⟩ (.int .i64 (k:Int))).alloc (.cells #[.int .i64 lk, .int .i64 lx] 56)) w.heap.size #[.int .i64 lk, .int .i64 lx] 56) := Lib.hid (box_at _ _ _ (by simp))
  have HBW : Hid (Below Bi w ((w.setCell ⟨Bi, 0, none⟩ (.int .i64 (k:Int))).alloc (.cells #[.int .i64 lk, .int .i64 lx] 56))) := Lib.hid ((below_set (Below.refl _ _) 0 _).alloc (by simp; omega) _)
  have Hr0 := Lib.hid (cell_below HBW.out hr0 hoI); have Hr1 := Lib.hid (cell_below HBW.out hr1 hoI)
  have hws : Hid (w.heap.size ≤ ((w.setCell ⟨Bi, 0, none⟩ (.int .i64 (k:Int))).alloc (.cells #[.int .i64 lk, .int .i64 lx] 56)).heap.size) := Lib.hid (by simp)
  clear hv hB h hx hy hI hG hN hr0 hr1
  go_enter Try.func49, Try.ntmps49
  go_wp2_with fail
  obtain ⟨W, hW⟩ : ∃ W, (w.setCell ⟨Bi, 0, none⟩ (.int .i64 (k:Int))).alloc (.cells #[.int .i64 lk, .int .i64 lx] 56) = W := ⟨_, rfl⟩
  rw [hW] at H1 H2 H3 H4 HBW Hr0 Hr1 hws
  rw [hW]
  clear hW i0 i1
  have hIW : Bi ≤ W.heap.size := by have := hws.out; omega
  obtain ⟨I, φ, h0, hφ, hmk⟩ := famOf (W).heap.size (W)
  haveI : Nonempty I := h0.elim fun i _ => ⟨i⟩
  have H0 := Lib.hid h0; have HF := Lib.hid hφ; have HMK := Lib.hid hmk; have HBs : Hid ((W).heap.size ≤ (W).heap.size) := Lib.hid (Nat.le_refl _)
  clear h0 hφ hmk
  have hf1 : ∀ i, (φ i).cell? ⟨Bi, 0, none⟩ = some (.int .i64 (k:Int)) := fun i => (box1 (H1.out.below (HF.out i) H1.out.lt)).1
  have hf3 : ∀ i, (φ i).cell? ⟨Nb, 0, none⟩ = some (.slice (some ⟨og, 0, none⟩) M oc) := fun i => (box1 (H3.out.below (HF.out i) H3.out.lt)).1
  obtain ⟨G_0, G_1, G_2, G_3, G_4⟩ := box2F fun i => H2.out.below (HF.out i) H2.out.lt
  obtain ⟨L_0, L_1, L_2, L_3, L_4⟩ := box2F fun i => H4.out.below (HF.out i) H4.out.lt
  have e2 : ∀ j, (φ j).cell? ⟨og, k, none⟩ = some (.int .i64 x) := fun j => cell_below (HF.out j) Hr0.out (cell_lt Hr0.out)
  have e3 : ∀ j, (φ j).cell? ⟨og, k + 1, none⟩ = some (.int .i64 y) := fun j => cell_below (HF.out j) Hr1.out (cell_lt Hr1.out)
  have w3 : IntKind.i64.wrap ((k:Int) + 1) = (k:Int) + 1 := IntWalk.i64_in _ (by omega)
  have hend : ∀ w4 : World, Below W.heap.size W w4 → Below Bi w w4 ∧ Box w4 Bi #[.int .i64 (k:Int)] 3 ∧ w.heap.size ≤ w4.heap.size := fun w4 hb => ⟨HBW.out.trans (hb.mono hIW), H1.out.below hb H1.out.lt, Nat.le_trans hws.out hb.size⟩
  have HE := Lib.hid hend
  clear hend
  rcases hk12 with rfl | rfl
  · have t1 : ((1:Int) == 1) = true := by simp
    obtain ⟨c, hc⟩ : ∃ c, cntG n ls x y = c := ⟨_, rfl⟩
    have HC : Hid (∀ i, Calls Try.prog 50 #[.agg #[.int .i64 n, .slice va vm vc], .int .i64 x, .int .i64 y] (φ i) fun e w' => e = .returned (.int .i64 c) ∧ Below (φ i).heap.size (φ i) w') := Lib.hid fun i => by rw [← hc]; exact iCnt n ls x y _ _ (HV.out.below (HB.out.trans ((HBW.out.trans ((HF.out i).mono hIW)).mono h0I)) (Nat.le_refl _)) HGO.out HX.out HY.out
    rw [hc]
    have HCC := Lib.hid hc
    clear hc
    by_cases hc1 : c = 1
    · have t3 : (c != 1) = false := by simpa using hc1
      have HC1 := Lib.hid hc1
      clear hc1
      refine wp_region_fam φ H0.out (by kernel_rfl) (by kernel_rfl) ?_
      repeat (go_big_quiet_step (first | (go_at_call 50; exact quiet_fam HF.out HBs.out HMK.out (HC.out _))))
      refine wpQuiet_nil ?_
      intro _ hw'
      obtain ⟨nq, hw''⟩ := hw'
      subst hw''
      have hb := HF.out nq
      obtain ⟨w4, hw2⟩ : ∃ x, φ nq = x := ⟨_, rfl⟩
      rw [hw2] at hb ⊢
      clear hw2
      go_wp2_with fail
      go_ret
      exact ⟨ret_bool (by rw [HCC.out, HC1.out]; rfl), HE.out _ hb⟩
    · have t3 : (c != 1) = true := by simpa using hc1
      have HC1 := Lib.hid hc1
      clear hc1
      refine wp_region_fam φ H0.out (by kernel_rfl) (by kernel_rfl) ?_
      repeat (go_big_quiet_step (first | (go_at_call 50; exact quiet_fam HF.out HBs.out HMK.out (HC.out _))))
      refine wpQuiet_nil ?_
      intro _ hw'
      obtain ⟨nq, hw''⟩ := hw'
      subst hw''
      have hb := HF.out nq
      obtain ⟨w4, hw2⟩ : ∃ x, φ nq = x := ⟨_, rfl⟩
      rw [hw2] at hb ⊢
      clear hw2
      go_wp2_with fail
      go_ret
      exact ⟨ret_bool (by rw [HCC.out]; simp [HC1.out]), HE.out _ hb⟩
  · have t1 : ((2:Int) == 1) = false := by simp
    refine wp_region_fam φ H0.out (by kernel_rfl) (by kernel_rfl) ?_
    repeat (go_big_quiet_step (fail))
    refine wpQuiet_nil ?_
    intro _ hw'
    obtain ⟨nq, hw''⟩ := hw'
    subst hw''
    have hb := HF.out nq
    obtain ⟨w4, hw2⟩ : ∃ x, φ nq = x := ⟨_, rfl⟩
    rw [hw2] at hb ⊢
    clear hw2
    go_wp2_with fail
    go_ret
    exact ⟨ret_bool (by simp), HE.out _ hb⟩
set_option maxRecDepth 100000 in
set_option maxHeartbeats 2000000 in
theorem uqIndex {n : Int} {ls : List LinkD} {a : Int} {s : List LabelD} {q : List Int} (hF : StkFacts n ls a s q) (Bi Gb Nb og M oc : Nat) (gv u : Value) (w0 w : World) (hv : TriplesAt w0 gv ls) (hB : Below w0.heap.size w0 w) (h0I : w0.heap.size ≤ Bi) (hu : PairsAt w0 u s)
    (hI : Box w Bi #[.int .i64 (-1)] 3) (hG : Box w Gb #[.int .i64 n, gv] 25) (hN : Box w Nb #[.slice (some ⟨og, 0, none⟩) M oc] 26) (hGI : Gb < Bi) (hNI : Nb < Bi) (hoI : og < Bi) (hM : M = s.length + 1)
    (hO : w.ownsRow 0 3 1 (.slice (some ⟨og, 0, none⟩) M oc) M ((a :: q).map (Value.int .i64))) :
    Calls Try.prog 78 #[u, .func (.func 49) #[] #[.pointer (some ⟨Bi, 0, none⟩), .pointer (some ⟨Gb, 0, none⟩), .pointer (some ⟨Nb, 0, none⟩)]] w
      (fun e w' => ∃ r : Int, e = .returned (.int .i64 r) ∧ decide (0 ≤ r) = !uniqS n ls a s ∧ Below Bi w w') := by
  have HV := Lib.hid hv; have HB := Lib.hid hB; have HFA := Lib.hid hF; have HO := Lib.hid hO; have HG := Lib.hid hG; have HN := Lib.hid hN
  obtain ⟨ua, ucap, ub, uoff, rfl, hucap, humax, hua, huc⟩ := hu
  obtain ⟨m, hm⟩ : ∃ m, m = s.length := ⟨_, rfl⟩
  rw [← hm] at hucap hua hM ⊢
  have HM := Lib.hid hm; have HUC := Lib.hid huc; have HUA := Lib.hid hua; have HMM := Lib.hid hM
  have hm8 : m ≤ 8 := by rw [hm]; exact hF.len
  have hM9 : M ≤ 9 := by omega
  have HI1 := Lib.hid hI
  unfold maxLen at humax
  clear hm huc hua hv hF hO hG hN hB hM hI
  go_enter Try.func78, Try.ntmps78
  go_wp2_with fail
  go_loopw [8] (fun i wr => ∃ k : Nat, k ≤ m ∧ i = .int .i64 k ∧ Hid (uniqS n ls a (s.take k) = true) ∧ Below Bi w wr ∧ Hid (Box wr Bi #[.int .i64 ((k:Int) - 1)] 3) ∧ w.heap.size ≤ wr.heap.size) (fun i _ => m - (intOf i).toNat)
  case atStart => exact ⟨0, Nat.zero_le _, rfl, Lib.hid rfl, Below.refl _ _, HI1, Nat.le_refl _⟩
  case round =>
    obtain ⟨k, hk, rfl, HU, hBr, HIr, hsz⟩ := hrel
    have HBr := Lib.hid hBr
    clear hBr
    by_cases hkm : k < m
    · obtain ⟨⟨lk, lx⟩, hx⟩ := at_lt HM.out hkm
      have hua := HUA.out (by omega)
      subst hua
      obtain ⟨d0, d1⟩ := HUC.out k lk lx hx
      have hbd := cell_lt d0
      have e0 := cell_below (HB.out.trans (HBr.out.mono h0I)) d0 hbd
      have e1 := cell_below (HB.out.trans (HBr.out.mono h0I)) d1 hbd
      obtain ⟨x, y, hA⟩ := stk_at HFA.out.ok HFA.out.nd HFA.out.run hx
      obtain ⟨r0, _⟩ := own_at HO.out hA.at_
      obtain ⟨r1, _⟩ := own_at HO.out (show (a :: q)[k + 1]? = some y by simpa using hA.next)
      have Hr0 := Lib.hid (cell_below HBr.out r0 hoI); have Hr1 := Lib.hid (cell_below HBr.out r1 hoI)
      have hk12 : lk = 1 ∨ lk = 2 := by
        rcases hop_cases HFA.out.ok hA.hop with h2 | ⟨_, _, h2, _⟩
        · exact .inl h2.1
        · exact .inr h2
      have HK := Lib.hid hk12
      have HAT := Lib.hid hA
      have hkI : (k:Int) < (m:Int) := by omega
      have hk0 : (0:Int) ≤ (k:Int) := by omega
      obtain ⟨r, hr⟩ : ∃ r, (decide (lk = 1) && !decide (cntG n ls x y = 1)) = r := ⟨_, rfl⟩
      have HR := Lib.hid hr
      have hUn : uniqS n ls a (s.take (k + 1)) = !r := by
        rw [hA.uniq, HU.out, ← hr]
        simp
      have HUN := Lib.hid hUn
      clear hx d0 d1 hA r0 r1 hk12 hr hUn
      go_wp2_with fail
      refine (uqOne x y lk lx k Bi Gb Nb og M oc gv w0 _ HV.out (HB.out.trans (HBr.out.mono h0I)) h0I HFA.out.ok HAT.out.ndx HAT.out.ndy HIr.out (HG.out.below HBr.out hGI) (HN.out.below HBr.out hNI) hGI hNI hoI Hr0.out Hr1.out (by have := HMM.out; omega) hM9 HK.out).mono ?_
      rw [HR.out]
      rintro e w3 ⟨rfl, hb1, hb2, hb3⟩
      have HB3 := Lib.hid (HBr.out.trans hb1)
      have HI3 := Lib.hid hb2
      clear hb1 hb2
      cases r with
      | true =>
        go_wp2_with fail
        go_ret
        exact ⟨_, rfl, by rw [uniq_no (k + 1) HUN.out]; simp, HB3.out⟩
      | false =>
        go_wp2_with fail
        go_roundw
        case rel => exact ⟨k + 1, by omega, by go_num, HUN, HB3.out, Lib.hid (by have := HI3.out; simpa using this), by omega⟩
        case measure => simp [intOf]; omega
    · obtain rfl : k = m := by omega
      go_wp2_with fail
      go_ret
      have h1 := HU.out
      rw [List.take_of_length_le (by have := HM.out; omega)] at h1
      exact ⟨-1, rfl, by rw [h1]; rfl, HBr.out⟩
theorem uqContains {n : Int} {ls : List LinkD} {a : Int} {s : List LabelD} {q : List Int} (hF : StkFacts n ls a s q) (Bi Gb Nb og M oc : Nat) (gv u : Value) (w0 w : World) (hv : TriplesAt w0 gv ls) (hB : Below w0.heap.size w0 w) (h0I : w0.heap.size ≤ Bi) (hu : PairsAt w0 u s)
    (hI : Box w Bi #[.int .i64 (-1)] 3) (hG : Box w Gb #[.int .i64 n, gv] 25) (hN : Box w Nb #[.slice (some ⟨og, 0, none⟩) M oc] 26) (hGI : Gb < Bi) (hNI : Nb < Bi) (hoI : og < Bi) (hM : M = s.length + 1)
    (hO : w.ownsRow 0 3 1 (.slice (some ⟨og, 0, none⟩) M oc) M ((a :: q).map (Value.int .i64))) :
    Calls Try.prog 48 #[u, .func (.func 49) #[] #[.pointer (some ⟨Bi, 0, none⟩), .pointer (some ⟨Gb, 0, none⟩), .pointer (some ⟨Nb, 0, none⟩)]] w
      (fun e w' => e = .returned (.bool (!uniqS n ls a s)) ∧ Below Bi w w') := by
  have HC := Lib.hid (uqIndex hF Bi Gb Nb og M oc gv u w0 w hv hB h0I hu hI hG hN hGI hNI hoI hM hO)
  obtain ⟨ua, um, ucap, rfl⟩ := hu.form
  obtain ⟨U, hU⟩ : ∃ U, (!uniqS n ls a s) = U := ⟨_, rfl⟩
  rw [hU] at HC ⊢
  clear hF hv hB h0I hu hI hG hN hGI hNI hoI hM hO hU
  go_enter Try.func48, Try.ntmps48
  go_wp2_with fail
  refine HC.out.mono ?_
  rintro e w' ⟨r, rfl, hr, hb⟩
  have HB := Lib.hid hb
  clear hb
  go_wp2_with fail
  go_ret
  exact ⟨rfl, HB.out⟩
set_option maxRecDepth 100000 in
set_option maxHeartbeats 2000000 in
theorem iStackUnique (n : Int) (ls : List LinkD) (a : Int) (s : List LabelD) (v u : Value) (w : World) (hv : TriplesAt w v ls) (hu : PairsAt w u s) :
    Calls Try.prog 19 #[.agg #[.int .i64 n, v], .int .i64 a, u] w fun e w' => e = .returned (.bool (unqV n ls a s)) ∧ Below w.heap.size w w' := by
  have HV := Lib.hid hv; have HU := Lib.hid hu
  obtain ⟨va, vm, vcap, rfl⟩ := hv.form
  obtain ⟨ua, um, ucap, rfl⟩ := hu.form
  clear hv hu
  go_enter Try.func19, Try.ntmps19
  go_wp2_with fail
  refine (iStk n ls a s _ _ _ (HV.out.below (by with_reducible (repeat (first | (refine below_drewN ?_ _) | (refine Below.drew ?_) | (refine below_alloc ?_ (by first | omega | (simp; done) | (simp; omega)) _) | (refine Below.setCell ?_ (by first | omega | (simp; done) | (simp; omega)) _) | exact Below.refl _ _ | assumption | (refine below_call ?_ (by first | omega | (simp; done) | (simp; omega)) (by assumption))))) (Nat.le_refl _)) (HU.out.below (by with_reducible (repeat (first | (refine below_drewN ?_ _) | (refine Below.drew ?_) | (refine below_alloc ?_ (by first | omega | (simp; done) | (simp; omega)) _) | (refine Below.setCell ?_ (by first | omega | (simp; done) | (simp; omega)) _) | exact Below.refl _ _ | assumption | (refine below_call ?_ (by first | omega | (simp; done) | (simp; omega)) (by assumption))))) (Nat.le_refl _))).mono ?_
  rintro e w1 ⟨hno, hyes, hb⟩
  have G := Lib.hid (Box.call (b := w.heap.size) (c := #[.int .i64 n, .slice va vm vcap]) (t := 25) hb (by with_reducible (repeat (first | (refine box_at _ _ _ ?_; first | rfl | (simp; done)) | apply Box.alloc | apply Box.drewN | apply Box.drew))))
  obtain ⟨G_0, G_1, G_2, G_3, G_4⟩ := box2 G.out
  have BW := Lib.hid (below_call (B := w.heap.size) (a := w) (by with_reducible (repeat (first | (refine below_drewN ?_ _) | (refine Below.drew ?_) | (refine below_alloc ?_ (by first | omega | (simp; done) | (simp; omega)) _) | (refine Below.setCell ?_ (by first | omega | (simp; done) | (simp; omega)) _) | exact Below.refl _ _ | assumption | (refine below_call ?_ (by first | omega | (simp; done) | (simp; omega)) (by assumption))))) (Nat.le_refl _) hb)
  clear hb G_0 G_1 G_2 G_3 G_4
  have hGl := G.out.lt
  rcases hs : stkOf n ls a s with _ | q
  · obtain ⟨A, m', c, rfl⟩ := hno hs
    clear hno hyes
    have HS := Lib.hid hs
    have hB := BW.out
    clear hs
    go_wp2_with fail
    go_ret
    exact ⟨ret_bool (unqV_none HS.out).symm, (by with_reducible (repeat (first | (refine below_drewN ?_ _) | (refine Below.drew ?_) | (refine below_alloc ?_ (by first | omega | (simp; done) | (simp; omega)) _) | (refine Below.setCell ?_ (by first | omega | (simp; done) | (simp; omega)) _) | exact Below.refl _ _ | assumption | (refine below_call ?_ (by first | omega | (simp; done) | (simp; omega)) (by assumption)))))⟩
  obtain ⟨v, rfl, hO⟩ := hyes q hs
  clear hno hyes
  have HS := Lib.hid hs
  have HUV := Lib.hid (unqV_some hs)
  have HFA := Lib.hid (stkOf_some hs)
  have hql : q.length + 1 = s.length + 1 := by have := (stkOf_some hs).qlen; omega
  obtain ⟨og, oc, rfl, hlo⟩ := own_pos hO.1 (by omega)
  have hog := (hO.lt og rfl).2.2
  have HO := Lib.hid (hO.mono (Nat.zero_le _) (Nat.le_refl _)).1
  clear hs hO
  have hGl' := Nat.lt_succ_of_lt hGl
  have W2 : Below w.heap.size w ((w1.alloc (.cells #[.slice (some ⟨og, 0, none⟩) (s.length + 1) oc] 26)).alloc (.cells #[.int .i64 (-1)] 3)) := by have hB := BW.out; exact (by with_reducible (repeat (first | (refine below_drewN ?_ _) | (refine Below.drew ?_) | (refine below_alloc ?_ (by first | omega | (simp; done) | (simp; omega)) _) | (refine Below.setCell ?_ (by first | omega | (simp; done) | (simp; omega)) _) | exact Below.refl _ _ | assumption | (refine below_call ?_ (by first | omega | (simp; done) | (simp; omega)) (by assumption)))))
  have BI : Box ((w1.alloc (.cells #[.slice (some ⟨og, 0, none⟩) (s.length + 1) oc] 26)).alloc (.cells #[.int .i64 (-1)] 3)) (w1.heap.size + 1) #[.int .i64 (-1)] 3 := box_at _ _ _ (by simp)
  have BN : Box ((w1.alloc (.cells #[.slice (some ⟨og, 0, none⟩) (s.length + 1) oc] 26)).alloc (.cells #[.int .i64 (-1)] 3)) w1.heap.size #[.slice (some ⟨og, 0, none⟩) (s.length + 1) oc] 26 := (box_new w1 _ _).alloc _
  have BG := (G.out.alloc (.cells #[.slice (some ⟨og, 0, none⟩) (s.length + 1) oc] 26)).alloc (.cells #[.int .i64 (-1)] 3)
  have OO := (HO.out.alloc (.cells #[.slice (some ⟨og, 0, none⟩) (s.length + 1) oc] 26)).alloc (.cells #[.int .i64 (-1)] 3)
  rw [hql] at OO
  have hws := BW.out.size
  have HC := Lib.hid (uqContains HFA.out (w1.heap.size + 1) w.heap.size w1.heap.size og (s.length + 1) oc _ _ w _ HV.out W2 (by omega) HU.out BI BG BN (by omega) (by omega) (by omega) rfl OO)
  have HW2 := Lib.hid W2
  clear W2 BI BN BG OO
  obtain ⟨U, hU⟩ : ∃ U, uniqS n ls a s = U := ⟨_, rfl⟩
  rw [hU] at HC HUV
  clear hU
  go_wp2_with fail
  refine HC.out.mono ?_
  rintro e w3 ⟨rfl, hb⟩
  have HB3 := Lib.hid (HW2.out.trans (hb.mono (by omega)))
  clear hb
  go_wp2_with fail
  go_ret
  exact ⟨ret_bool HUV.out.symm, HB3.out⟩
end Go.Proofs.Ytoebefpmfgkpoaa
