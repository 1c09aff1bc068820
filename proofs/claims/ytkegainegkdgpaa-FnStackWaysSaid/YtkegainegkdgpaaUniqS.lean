/- Whether a stack's way is unique: StackUnique of the reference: unqV. -/
import Derived.Test.YtkegainegkdgpaaCnt
import Derived.Test.YtkegainegkdgpaaStkEnd
namespace Go.Proofs.Ytkegainegkdgpaa
set_option linter.unusedSimpArgs false
set_option linter.unusedVariables false
open Go.RowKit

def unqV (n : Int) (ls : List LinkD) (a : Int) (s : List LabelD) : Bool := match stkOf n ls a s with | none => false | some _ => uniqS n ls a s
theorem unqV_none {n : Int} {ls : List LinkD} {a : Int} {s : List LabelD} (h : stkOf n ls a s = none) : unqV n ls a s = false := by rw [unqV, h]
theorem unqV_some {n : Int} {ls : List LinkD} {a : Int} {s : List LabelD} {q : List Int} (h : stkOf n ls a s = some q) : unqV n ls a s = uniqS n ls a s := by rw [unqV, h]
theorem uniq_no {n : Int} {ls : List LinkD} : ∀ {s : List LabelD} {a : Int} (k : Nat), uniqS n ls a (s.take k) = false → uniqS n ls a s = false
  | [], a, k, h => by simpa using h
  | l :: s, a, 0, h => by simp [uniqS] at h
  | l :: s, a, k + 1, h => by
    simp only [List.take_succ_cons, uniqS, Bool.and_eq_false_iff] at h ⊢
    rcases h with h | h
    · exact .inl h
    · exact .inr (uniq_no k h)
set_option maxRecDepth 100000 in
set_option maxHeartbeats 4000000 in
theorem sStackUnique (n : Int) (ls : List LinkD) (a : Int) (s : List LabelD) (v u : Value) (w : World) (hv : TriplesAt w v ls) (hu : PairsAt w u s) :
    Calls Try.prog 26 #[.agg #[.int .i64 n, v], .int .i64 a, u] w fun e w' => e = .returned (.bool (unqV n ls a s)) ∧ Below w.heap.size w w' := by
  have HV := Lib.hid hv; have HU := Lib.hid hu
  obtain ⟨va, vm, vcap, rfl⟩ := hv.form
  obtain ⟨ua, ucap, ub, uoff, rfl, hucap, humax, hua, huc⟩ := hu
  obtain ⟨m, hm⟩ : ∃ m, m = s.length := ⟨_, rfl⟩
  rw [← hm] at hucap hua HU ⊢
  have HM := Lib.hid hm; have HUC := Lib.hid huc; have HUA := Lib.hid hua
  unfold maxLen at humax
  clear hm huc hua hv
  go_enter Try.func26, Try.ntmps26
  go_wp2_with fail
  refine (sStk n ls a s _ _ _ (HV.out.below (by with_reducible (repeat (first | (refine below_drewN ?_ _) | (refine Below.drew ?_) | (refine below_alloc ?_ (by first | omega | (simp; done) | (simp; omega)) _) | (refine Below.setCell ?_ (by first | omega | (simp; done) | (simp; omega)) _) | exact Below.refl _ _ | assumption | (refine below_call ?_ (by first | omega | (simp; done) | (simp; omega)) (by assumption))))) (Nat.le_refl _)) (HU.out.below (by with_reducible (repeat (first | (refine below_drewN ?_ _) | (refine Below.drew ?_) | (refine below_alloc ?_ (by first | omega | (simp; done) | (simp; omega)) _) | (refine Below.setCell ?_ (by first | omega | (simp; done) | (simp; omega)) _) | exact Below.refl _ _ | assumption | (refine below_call ?_ (by first | omega | (simp; done) | (simp; omega)) (by assumption))))) (Nat.le_refl _))).mono ?_
  rintro e w1 ⟨hno, hyes, hb⟩
  have G := Lib.hid (Box.call (b := w.heap.size) (c := #[.int .i64 n, .slice va vm vcap]) (t := 25) hb (by with_reducible (repeat (first | (refine box_at _ _ _ ?_; first | rfl | (simp; done)) | apply Box.alloc | apply Box.drewN | apply Box.drew))))
  obtain ⟨G_0, G_1, G_2, G_3, G_4⟩ := box2 G.out
  have BW := Lib.hid (below_call (B := w.heap.size) (a := w) (by with_reducible (repeat (first | (refine below_drewN ?_ _) | (refine Below.drew ?_) | (refine below_alloc ?_ (by first | omega | (simp; done) | (simp; omega)) _) | (refine Below.setCell ?_ (by first | omega | (simp; done) | (simp; omega)) _) | exact Below.refl _ _ | assumption | (refine below_call ?_ (by first | omega | (simp; done) | (simp; omega)) (by assumption))))) (Nat.le_refl _) hb)
  clear hb G_0 G_1 G_2 G_3 G_4
  rcases hs : stkOf n ls a s with _ | q
  · obtain ⟨A, m', c, rfl⟩ := hno hs
    clear hno hyes
    have HS := Lib.hid hs
    clear hs
    go_wp2_with fail
    by_cases hm0 : 0 < m
    · have t1 : decide ((0:Int) < (m:Int)) = true := decide_eq_true (by omega)
      go_loopw [8, 9] (fun okv i wr => okv = .bool false ∧ i = .int .i64 0 ∧ Below w.heap.size w wr) (fun _ _ _ => 0)
      case atStart => exact ⟨rfl, rfl, BW.out⟩
      case round =>
        obtain ⟨rfl, rfl, hB⟩ := hrel
        go_wp2_with fail
        go_ret
        exact ⟨ret_bool (unqV_none HS.out).symm, hB⟩
    · have t1 : decide ((0:Int) < (m:Int)) = false := decide_eq_false (by omega)
      go_loopw [8, 9] (fun okv i wr => okv = .bool false ∧ i = .int .i64 0 ∧ Below w.heap.size w wr) (fun _ _ _ => 0)
      case atStart => exact ⟨rfl, rfl, BW.out⟩
      case round =>
        obtain ⟨rfl, rfl, hB⟩ := hrel
        go_wp2_with fail
        go_ret
        exact ⟨ret_bool (unqV_none HS.out).symm, hB⟩
  obtain ⟨v, rfl, hO⟩ := hyes q hs
  clear hno hyes
  have HS := Lib.hid hs
  clear hs
  have hF := stkOf_some HS.out
  have hm8 : m ≤ 8 := by have := hF.len; have := HM.out; omega
  have hqm : q.length = m := by have := hF.qlen; have := HM.out; omega
  rw [hqm] at hO
  have HFA := Lib.hid hF
  obtain ⟨g1, c1, rfl, hlo⟩ := own_pos hO.1 (by omega)
  have HO := Lib.hid hO
  have HUV := Lib.hid (unqV_some HS.out)
  clear hF hO hlo
  go_wp2_with fail
  go_loopw [8, 9] (fun okv i wr => ∃ (k : Nat), k ≤ m ∧ i = .int .i64 k ∧ okv = .bool (uniqS n ls a (s.take k)) ∧ Below w.heap.size w wr ∧ Below w1.heap.size w1 wr) (fun _ i _ => m - (intOf i).toNat)
  case atStart => exact ⟨0, Nat.zero_le _, rfl, rfl, BW.out, Below.refl _ _⟩
  case round =>
    obtain ⟨k, hk, rfl, rfl, hB, hB1⟩ := hrel
    obtain ⟨U, hU⟩ : ∃ U, uniqS n ls a (s.take k) = U := ⟨_, rfl⟩
    rw [hU]
    have HUU := Lib.hid hU
    clear hU
    have HB := Lib.hid hB; have HB1 := Lib.hid hB1
    have hG := G.out.below hB1 G.out.lt
    clear hB hB1
    by_cases hkm : k < m
    rotate_left
    · have t1 : decide ((k:Int) < (m:Int)) = false := decide_eq_false (by omega)
      go_wp2_with fail
      go_ret
      refine ⟨ret_bool ?_, HB.out⟩
      rw [HUV.out, ← HUU.out, List.take_of_length_le (by have := HM.out; omega)]
    have t1 : decide ((k:Int) < (m:Int)) = true := decide_eq_true (by omega)
    cases U with
    | false =>
      go_wp2_with fail
      go_ret
      refine ⟨ret_bool ?_, HB.out⟩
      rw [HUV.out, uniq_no k HUU.out]
    | true =>
      obtain ⟨⟨lk, lx⟩, hx⟩ := at_lt HM.out hkm
      have hua := HUA.out (by omega)
      subst hua
      obtain ⟨d0, d1⟩ := HUC.out k lk lx hx
      have hbd := cell_lt d0
      have e0 := cell_below HB.out d0 hbd
      obtain ⟨x, y, hA⟩ := stk_at HFA.out.ok HFA.out.nd HFA.out.run hx
      have hO2 := (HO.out.below HB1.out (Nat.le_refl _)).1
      obtain ⟨r0, _⟩ := own_at hO2 hA.at_
      obtain ⟨r1, _⟩ := own_at hO2 (show (a :: q)[k + 1]? = some y by simpa using hA.next)
      have hkI : (k:Int) < (m:Int) := by omega
      have hkI3 : (k:Int) < (m:Int) + 1 := by omega
      have hkI2 : (k:Int) + 1 < (((m + 1 : Nat)) : Int) := by omega
      have hk0 : (0:Int) ≤ (k:Int) := by omega
      have hk01 : (0:Int) ≤ (k:Int) + 1 := by omega
      have hkk : ((k:Int) + 1).toNat = k + 1 := by omega
      have w3 : IntKind.i64.wrap ((k:Int) + 1) = (k:Int) + 1 := IntWalk.i64_in _ (by omega)
      have HAT := Lib.hid hA
      clear hx d0 d1 hA hO2
      go_wp2_with fail
      obtain ⟨I, φ, h0, hφ, hmk⟩ := famOf (wr).heap.size (wr)
      haveI : Nonempty I := h0.elim fun i _ => ⟨i⟩
      have H0 := Lib.hid h0; have HF := Lib.hid hφ; have HMK := Lib.hid hmk; have HBs : Hid ((wr).heap.size ≤ (wr).heap.size) := Lib.hid (Nat.le_refl _)
      clear h0 hφ hmk
      obtain ⟨G_0, G_1, G_2, G_3, G_4⟩ := box2F fun i => hG.below (HF.out i) hG.lt
      have g0 : ∀ j, (φ j).cell? ⟨ub, uoff + k * 2, none⟩ = some (.int .i64 lk) := fun j => cell_below (HF.out j) e0 (cell_lt e0)
      have g2 : ∀ j, (φ j).cell? ⟨g1, k, none⟩ = some (.int .i64 x) := fun j => cell_below (HF.out j) r0 (cell_lt r0)
      have g3 : ∀ j, (φ j).cell? ⟨g1, k + 1, none⟩ = some (.int .i64 y) := fun j => cell_below (HF.out j) r1 (cell_lt r1)
      clear r0 r1 e0
      by_cases h1 : lk = 1
      · subst h1
        have t2 : ((1:Int) == 2) = false := by simp
        obtain ⟨c, hc⟩ : ∃ c, cntG n ls x y = c := ⟨_, rfl⟩
        have HC : Hid (∀ i, Calls Try.prog 51 #[.agg #[.int .i64 n, .slice va vm vcap], .int .i64 x, .int .i64 y] (φ i) fun e w' => e = .returned (.int .i64 c) ∧ Below (φ i).heap.size (φ i) w') := Lib.hid fun i => by rw [← hc]; exact sCnt n ls x y _ _ (HV.out.below (HB.out.trans ((HF.out i).mono HB.out.size)) (Nat.le_refl _)) HFA.out.ok HAT.out.ndx HAT.out.ndy
        have HCC := Lib.hid hc
        clear hc
        by_cases hc1 : c = 1
        · have t3 : (c == 1) = true := by simpa using hc1
          have HC1 := Lib.hid hc1
          clear hc1
          refine wp_region_fam φ H0.out (by kernel_rfl) (by kernel_rfl) ?_
          repeat (go_big_quiet_step (first | (go_at_call 51; exact quiet_fam HF.out HBs.out HMK.out (HC.out _))))
          refine wpQuiet_nil ?_
          intro _ hw'
          obtain ⟨nq, hw''⟩ := hw'
          subst hw''
          have hb := HF.out nq
          obtain ⟨w4, hw2⟩ : ∃ x, φ nq = x := ⟨_, rfl⟩
          rw [hw2] at hb ⊢
          clear hw2
          have kk := Lib.hid hb
          clear hb
          go_wp2_with fail
          go_roundw
          case rel => exact ⟨k + 1, by omega, by go_num, by rw [HAT.out.uniq, HUU.out, HCC.out, HC1.out]; rfl, HB.out.trans (kk.out.mono HB.out.size), HB1.out.trans (kk.out.mono HB1.out.size)⟩
          case measure => simp [intOf]; omega
        · have t3 : (c == 1) = false := by simpa using hc1
          have HC1 := Lib.hid hc1
          clear hc1
          refine wp_region_fam φ H0.out (by kernel_rfl) (by kernel_rfl) ?_
          repeat (go_big_quiet_step (first | (go_at_call 51; exact quiet_fam HF.out HBs.out HMK.out (HC.out _))))
          refine wpQuiet_nil ?_
          intro _ hw'
          obtain ⟨nq, hw''⟩ := hw'
          subst hw''
          have hb := HF.out nq
          obtain ⟨w4, hw2⟩ : ∃ x, φ nq = x := ⟨_, rfl⟩
          rw [hw2] at hb ⊢
          clear hw2
          have kk := Lib.hid hb
          clear hb
          go_wp2_with fail
          go_roundw
          case rel => exact ⟨k + 1, by omega, by go_num, by rw [HAT.out.uniq, HUU.out, HCC.out]; simp [HC1.out], HB.out.trans (kk.out.mono HB.out.size), HB1.out.trans (kk.out.mono HB1.out.size)⟩
          case measure => simp [intOf]; omega
      · have h2 : lk = 2 := by
          rcases hop_cases HFA.out.ok HAT.out.hop with h2 | ⟨_, _, h2, _⟩
          · exact absurd h2.1 h1
          · exact h2
        subst h2
        have t2 : ((2:Int) == 2) = true := by simp
        refine wp_region_fam φ H0.out (by kernel_rfl) (by kernel_rfl) ?_
        repeat (go_big_quiet_step (fail))
        refine wpQuiet_nil ?_
        intro _ hw'
        obtain ⟨nq, hw''⟩ := hw'
        subst hw''
        have hb := HF.out nq
        obtain ⟨w4, hw2⟩ : ∃ x, φ nq = x := ⟨_, rfl⟩
        rw [hw2] at hb ⊢
        clear hw2
        have kk := Lib.hid hb
        clear hb
        go_wp2_with fail
        go_roundw
        case rel => exact ⟨k + 1, by omega, by go_num, by rw [HAT.out.uniq, HUU.out]; rfl, HB.out.trans (kk.out.mono HB.out.size), HB1.out.trans (kk.out.mono HB1.out.size)⟩
        case measure => simp [intOf]; omega
end Go.Proofs.Ytkegainegkdgpaa
