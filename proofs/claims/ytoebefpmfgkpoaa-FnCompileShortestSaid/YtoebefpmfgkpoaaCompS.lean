/- A compiled stack: StackCompile of the reference. -/
import Derived.Test.YtoebefpmfgkpoaaComp
namespace Go.Proofs.Ytoebefpmfgkpoaa
set_option linter.unusedSimpArgs false
set_option linter.unusedVariables false
open Go.RowKit

theorem LwP.grow {w : World} {R : Nat} {n : Int} {u : Value} {ls : List LinkD} {x : Value} {p : List Int} {W W' : World} {row : Option Nat} (h : LwP w R n u ls x p W) (hv : TriplesAt w u ls) (hu : IntsAt w x p) (hg : W.grownBy W' row) (hr : ∀ j, row = some j → R + 1 ≤ j) (hR : w.heap.size ≤ R) : LwP w R n u ls x p W' := by
  have hb := Below.grown h.bw hg h.bw.size (fun j hj => by have := hr j hj; omega)
  exact ⟨hb, h.box.grown hg (fun j hj => by have := hr j hj; omega), hv.below hb (Nat.le_refl _), hu.below hb (Nat.le_refl _)⟩
set_option maxRecDepth 100000 in
set_option maxHeartbeats 8000000 in
theorem sCompile (n : Int) (ls : List LinkD) (L : List Int) (v u : Value) (w : World) (hv : TriplesAt w v ls) (hu : IntsAt w u L) :
    Calls Try.prog 13 #[.agg #[.int .i64 n, v], u] w (CompPost w n ls L) := by
  have HV := Lib.hid hv; have HU := Lib.hid hu
  obtain ⟨va, vm, vc, rfl⟩ := hv.form
  obtain ⟨a, cap, rfl, hcap, hmax⟩ := hu.form2
  obtain ⟨m, hm⟩ : ∃ m, m = L.length := ⟨_, rfl⟩
  rw [← hm] at hcap HU ⊢
  have HM := Lib.hid hm
  unfold maxLen at hmax
  obtain ⟨i0, hi, hz0, hz1, hz2⟩ := info_parts infoLab
  obtain ⟨i1, hi1, hq1, hy1, hq2⟩ := info_parts infoIntC
  have HI := Lib.hid hi; have HZ0 := Lib.hid hz0; have HZ1 := Lib.hid hz1; have HZ2 := Lib.hid hz2; have HI1 := Lib.hid hi1; have HY1 := Lib.hid hy1
  clear hi hz0 hz1 hz2 hi1 hy1 hq1 hq2 hv hm
  go_enter Try.func13, Try.ntmps13
  go_wp2_with fail
  have HR0 : Hid (((w.alloc (.cells #[.int .i64 n, .slice va vm vc] 25)).alloc (.cells #[] 56)).ownsRow (w.heap.size + 1) 56 2 (.slice (some ⟨w.heap.size + 1, 0, none⟩) 0 0) 0 (cells2 [])) := Lib.hid (own_new (by simp) (Nat.le_refl _))
  refine (sPathValid n ls L _ _ _ (HV.out.below (by with_reducible (repeat (first | (refine below_drewN ?_ _) | (refine Below.drew ?_) | (refine below_alloc ?_ (by first | omega | (simp; done) | (simp; omega)) _) | (refine Below.setCell ?_ (by first | omega | (simp; done) | (simp; omega)) _) | exact Below.refl _ _ | assumption | (refine below_call ?_ (by first | omega | (simp; done) | (simp; omega)) (by assumption))))) (Nat.le_refl _)) (HU.out.below (by with_reducible (repeat (first | (refine below_drewN ?_ _) | (refine Below.drew ?_) | (refine below_alloc ?_ (by first | omega | (simp; done) | (simp; omega)) _) | (refine Below.setCell ?_ (by first | omega | (simp; done) | (simp; omega)) _) | exact Below.refl _ _ | assumption | (refine below_call ?_ (by first | omega | (simp; done) | (simp; omega)) (by assumption))))) (Nat.le_refl _))).mono ?_
  rintro e w1 ⟨rfl, hb⟩
  have G := Lib.hid (Box.call (b := w.heap.size) (c := #[.int .i64 n, .slice va vm vc]) (t := 25) hb (by with_reducible (repeat (first | (refine box_at _ _ _ ?_; first | rfl | (simp; done)) | apply Box.alloc | apply Box.drewN | apply Box.drew))))
  obtain ⟨G_0, G_1, G_2, G_3, G_4⟩ := box2 G.out
  have BW := Lib.hid (below_call (B := w.heap.size) (a := w) (by with_reducible (repeat (first | (refine below_drewN ?_ _) | (refine Below.drew ?_) | (refine below_alloc ?_ (by first | omega | (simp; done) | (simp; omega)) _) | (refine Below.setCell ?_ (by first | omega | (simp; done) | (simp; omega)) _) | exact Below.refl _ _ | assumption | (refine below_call ?_ (by first | omega | (simp; done) | (simp; omega)) (by assumption))))) (Nat.le_refl _) hb)
  replace HR0 := Lib.hid ((OwnR.of HR0.out).below hb (Nat.le_refl _)).1
  clear hb
  obtain ⟨q, hq⟩ : ∃ q, pathOk n ls L = q := ⟨_, rfl⟩
  have HQ := Lib.hid hq
  rw [hq]
  clear hq
  cases q with
  | false =>
    go_wp2_with fail
    go_ret2
    exact ⟨fun _ => ⟨_, rfl, (OwnR.of HR0.out).mono (by omega) (Nat.le_refl _)⟩, (fun h => by rw [HQ.out] at h; cases h), BW.out⟩
  | true =>
    have hlen : 1 ≤ m ∧ m ≤ 9 := by
      obtain ⟨a', p, e, _, h8, _⟩ := pathOk_iff HQ.out
      rw [HM.out, e, List.length_cons]; omega
    obtain ⟨hm1, hm9⟩ := hlen
    obtain ⟨b, off, rfl, hbl⟩ := hu.some (by have := HM.out; omega)
    have HLP : Hid (LwP w w.heap.size n (.slice va vm vc) ls (.slice (some ⟨b, off, none⟩) m cap) L w1) := Lib.hid ⟨BW.out, G.out, HV.out.below BW.out (Nat.le_refl _), HU.out.below BW.out (Nat.le_refl _)⟩
    clear hu G_0 G_1 G_2 G_3 G_4
    go_wp2_with fail
    go_loopw [6, 7] (fun sv i wr => ∃ (t : Nat) (O : List LabelD), t + 1 ≤ m ∧ i = .int .i64 t ∧ O.length ≤ t ∧ Hid (O ++ compT n ls L t = compT n ls L 0) ∧ wr.ownsRow (w.heap.size + 1) 56 2 sv O.length (cells2 O) ∧ LwP w w.heap.size n (.slice va vm vc) ls (.slice (some ⟨b, off, none⟩) m cap) L wr) (fun _ i _ => m - (intOf i).toNat)
    case atStart => exact ⟨0, [], by omega, rfl, Nat.le_refl _, Lib.hid rfl, HR0.out, HLP.out⟩
    case round =>
      obtain ⟨t, O, ht, rfl, hO, HT, hR, hL⟩ := hrel
      clear HR0 HLP
      obtain ⟨w2, hw2⟩ : ∃ X, X = wr := ⟨_, rfl⟩
      subst hw2
      have HLr := Lib.hid hL
      have HR := Lib.hid hR
      obtain ⟨sa, sc, rfl⟩ := own_slice hR
      have hw1 : IntKind.i64.wrap ((t:Int) + 1) = (t:Int) + 1 := IntWalk.i64_in _ (by omega)
      clear hL hR
      by_cases htm : t + 1 < m
      · have e0 : decide ((t:Int) + 1 < (m:Int)) = true := decide_eq_true (by omega)
        obtain ⟨x, hx⟩ := at_lt HM.out (show t < m by omega)
        obtain ⟨y, hy⟩ := at_lt HM.out (show t + 1 < m by omega)
        have HX := Lib.hid hx; have HY := Lib.hid hy
        have hI1 : (t:Int) + 1 < (m:Int) := by omega
        clear hx hy
        go_wp2_with fail
        go_loopw [8] (fun ev wq => ∃ e : Nat, 1 ≤ e ∧ t + e < m ∧ ev = .int .i64 ((t + e : Nat) : Int) ∧ Hid (e = 1 ∨ segB n ls L t e = true) ∧ Below w2.heap.size w2 wq) (fun ev _ => m - (intOf ev).toNat)
        case atStart => exact ⟨1, Nat.le_refl _, htm, by go_num, Lib.hid (.inl rfl), Below.refl _ _⟩
        case round =>
          obtain ⟨e, he, hte, rfl, HG1, hB⟩ := hrel
          have HLq := Lib.hid (HLr.out.below hB)
          have HRq := Lib.hid ((OwnR.of HR.out).below hB (Nat.le_refl _)).1
          have HBI := Lib.hid hB
          have hsz := hB.size
          clear hB
          obtain ⟨E, hE⟩ : ∃ E : Nat, E = t + e := ⟨_, rfl⟩
          rw [← hE]
          have HE := Lib.hid hE
          have hE1 : E + 1 ≤ m := by omega
          have hE2 : t < E := by omega
          clear hE
          have hw3 : IntKind.i64.wrap ((E:Int) + 1) = (E:Int) + 1 := IntWalk.i64_in _ (by omega)
          have hw4 : IntKind.i64.wrap ((E:Int) + 2) = (E:Int) + 2 := IntWalk.i64_in _ (by omega)
          have hI2 : (t:Int) < (E:Int) := by omega
          have hI3 : (0:Int) ≤ (t:Int) := by omega
          have hI4 : (E:Int) < (m:Int) := by omega
          have hI5 : (0:Int) ≤ (E:Int) := by omega
          obtain ⟨b0, b1, f0, f1, hb0⟩ := box2 HLq.out.box
          by_cases hEm : E + 1 < m
          · have e1 : decide ((E:Int) + 1 < (m:Int)) = true := decide_eq_true (by omega)
            have hs2 : ∀ W : World, (Instr.slice 26 (.slice (some ⟨b, off, none⟩) m cap) (some (.int .i64 (t : Int))) (some (.int .i64 ((E:Int) + 2))) none).run Try.prog W = .ok (.slice (cutA (some ⟨b, off, none⟩) cap t 1) (E + 2 - t) (cap - t)) W := fun W => by have h := run_mid (P := Try.prog) (A := some ⟨b, off, none⟩) (n := m) (c := cap) (l := (t:Int)) (k := (E:Int) + 2) Try.underlying26 HI1.out t (E + 2) rfl (by omega) (by omega) (by omega) W; rw [HY1.out] at h; exact h
            have HSUB2 : Hid ((L.drop t).take (E + 2 - t) = x :: (L.drop (t + 1)).take (e + 1)) := Lib.hid (by have := HE.out; rw [show E + 2 - t = e + 1 + 1 by omega]; exact cut_at HX.out)
            have HPQ2 := Lib.hid (path_sub HQ.out HX.out (e + 1))
            have HSG2 := Lib.hid (segB_at (n := n) (ls := ls) (e := e + 1) HX.out)
            obtain ⟨S2, hS2⟩ : ∃ S, segB n ls L t (e + 1) = S := ⟨_, rfl⟩
            have HS2 := Lib.hid hS2
            rw [HSG2.out] at hS2
            have HON2 := Lib.hid hS2
            clear hS2
            go_wp2_with fail
            replace HLq := Lib.hid HLq.out.drew
            replace HRq := Lib.hid (own_drew HRq.out)
            replace HBI := Lib.hid HBI.out.drew
            clear b0 b1 f0 f1 hb0
            obtain ⟨b0, b1, f0, f1, hb0⟩ := box2 HLq.out.box
            cases S2 with
            | true =>
              refine wp_region_noPanic ?_
              refine wp_region_held_drew (S := (fun w' => w'.cell? ⟨w.heap.size, 0, none⟩ = some (.int .i64 n) ∧ w'.cell? ⟨w.heap.size, 1, none⟩ = some (.slice va vm vc))) (by kernel_rfl) (by ((try dsimp only); (first | go_keep | exact ⟨b0, b1⟩))) (fun hHeld => ?_)
              refine wpAnyH_take (i := 0) (oi := _) (v := ?_) rfl (by kernel_rfl) (by kernel_rfl) (by kernel_rfl) (fun _ _ _ h => h) (Or.inl ⟨by rfl, ?_⟩) (by assumption) ?_
              rotate_left
              focus (intro w hSw; (try dsimp only at hSw); go_simp; try (with_reducible rfl))
              try simp only [List.getElem_toArray, List.getElem_cons_zero, List.getElem_cons_succ, Act.put, List.setIfInBounds_toArray, List.set_cons_zero, List.set_cons_succ]
              refine wpAnyH_take (i := 1) (oi := _) (v := ?_) rfl (by kernel_rfl) (by kernel_rfl) (by kernel_rfl) (fun _ _ _ h => h) (Or.inl ⟨by rfl, ?_⟩) (by assumption) ?_
              rotate_left
              focus (intro w hSw; (try dsimp only at hSw); go_simp; try (with_reducible rfl))
              try simp only [List.getElem_toArray, List.getElem_cons_zero, List.getElem_cons_succ, Act.put, List.setIfInBounds_toArray, List.set_cons_zero, List.set_cons_succ]
              refine wpAnyH_take (i := 2) (oi := _) (v := ?_) rfl (by kernel_rfl) (by kernel_rfl) (by kernel_rfl) (fun _ _ _ h => h) (Or.inl ⟨by rfl, ?_⟩) (by assumption) ?_
              rotate_left
              focus (intro w hSw; (try dsimp only at hSw); go_simp; try (with_reducible rfl))
              try simp only [List.getElem_toArray, List.getElem_cons_zero, List.getElem_cons_succ, Act.put, List.setIfInBounds_toArray, List.set_cons_zero, List.set_cons_succ]
              refine wpAnyH_take (i := 3) (oi := _) (v := ?_) rfl (by kernel_rfl) (by kernel_rfl) (by kernel_rfl) (fun _ _ _ h => h) (Or.inl ⟨by rfl, ?_⟩) (by assumption) ?_
              rotate_left
              focus (intro w hSw; (try dsimp only at hSw); go_simp; try (with_reducible rfl))
              try simp only [List.getElem_toArray, List.getElem_cons_zero, List.getElem_cons_succ, Act.put, List.setIfInBounds_toArray, List.set_cons_zero, List.set_cons_succ]
              refine wpAnyH_take (i := 4) (oi := _) (v := ?_) rfl (by kernel_rfl) (by kernel_rfl) (by kernel_rfl) (fun _ _ _ h => h) (Or.inl ⟨by rfl, ?_⟩) (by assumption) ?_
              rotate_left
              focus (intro w hSw; (try dsimp only at hSw); go_simp; try (with_reducible rfl))
              try simp only [List.getElem_toArray, List.getElem_cons_zero, List.getElem_cons_succ, Act.put, List.setIfInBounds_toArray, List.set_cons_zero, List.set_cons_succ]
              refine wpAnyH_take (i := 5) (oi := _) (v := ?_) rfl (by kernel_rfl) (by kernel_rfl) (by kernel_rfl) (fun _ _ _ h => h) (Or.inl ⟨by rfl, ?_⟩) (by assumption) ?_
              rotate_left
              focus (intro w hSw; (try dsimp only at hSw); go_simp; try (with_reducible rfl))
              try simp only [List.getElem_toArray, List.getElem_cons_zero, List.getElem_cons_succ, Act.put, List.setIfInBounds_toArray, List.set_cons_zero, List.set_cons_succ]
              refine wpAnyH_take (i := 6) (oi := _) (v := ?_) rfl (by kernel_rfl) (by kernel_rfl) (by kernel_rfl) (fun _ _ _ h => h) (Or.inl ⟨by rfl, ?_⟩) (by assumption) ?_
              rotate_left
              focus (intro w hSw; (try dsimp only at hSw); go_simp; try (with_reducible rfl))
              try simp only [List.getElem_toArray, List.getElem_cons_zero, List.getElem_cons_succ, Act.put, List.setIfInBounds_toArray, List.set_cons_zero, List.set_cons_succ]
              refine wpAnyH_take (i := 7) (oi := _) (v := ?_) rfl (by kernel_rfl) (by kernel_rfl) (by kernel_rfl) (fun _ _ _ h => h) (Or.inl ⟨by rfl, ?_⟩) (by assumption) ?_
              rotate_left
              focus (intro w hSw; (try dsimp only at hSw); go_simp; try (with_reducible rfl))
              try simp only [List.getElem_toArray, List.getElem_cons_zero, List.getElem_cons_succ, Act.put, List.setIfInBounds_toArray, List.set_cons_zero, List.set_cons_succ]
              refine wpAnyH_take (i := 8) (oi := _) (v := ?_) rfl (by kernel_rfl) (by kernel_rfl) (by kernel_rfl) (fun _ _ _ h => h) (Or.inl ⟨by rfl, ?_⟩) (by assumption) ?_
              rotate_left
              focus (intro w hSw; (try dsimp only at hSw); go_simp; try (with_reducible rfl))
              try simp only [List.getElem_toArray, List.getElem_cons_zero, List.getElem_cons_succ, Act.put, List.setIfInBounds_toArray, List.set_cons_zero, List.set_cons_succ]
              refine wpAnyH_take (i := 9) (oi := _) (v := ?_) rfl (by kernel_rfl) (by kernel_rfl) (by kernel_rfl) (fun _ _ _ h => h) (Or.inl ⟨by rfl, ?_⟩) (by assumption) ?_
              rotate_left
              focus (intro w hSw; (try dsimp only at hSw); go_simp; try (with_reducible rfl))
              try simp only [List.getElem_toArray, List.getElem_cons_zero, List.getElem_cons_succ, Act.put, List.setIfInBounds_toArray, List.set_cons_zero, List.set_cons_succ]
              refine wpAnyH_take (i := 10) (oi := _) (v := ?_) rfl (by kernel_rfl) (by kernel_rfl) (by kernel_rfl) (fun _ _ _ h => h) (Or.inl ⟨by rfl, ?_⟩) (by assumption) ?_
              rotate_left
              focus (intro w hSw; (try dsimp only at hSw); go_simp; try (with_reducible rfl))
              try simp only [List.getElem_toArray, List.getElem_cons_zero, List.getElem_cons_succ, Act.put, List.setIfInBounds_toArray, List.set_cons_zero, List.set_cons_succ]
              refine wpAnyH_ready (rs := [11]) (by kernel_rfl) (by simp) ?_
              refine AllReadyH.cons (o := _) rfl (fun K hK => ?_) AllReadyH.nil
              go_simp
              refine hK.out _ _ (by ((try dsimp only); (first | go_keep | exact ⟨b0, b1⟩))) (fun hHeld => ?_)
              clear hK K
              try simp only [List.getElem_toArray, List.getElem_cons_zero, List.getElem_cons_succ, Act.put, List.setIfInBounds_toArray, List.set_cons_zero, List.set_cons_succ]
              refine wpAnyH_ready (rs := [12]) (by kernel_rfl) (by simp) ?_
              refine AllReadyH.cons (o := _) rfl (fun K hK => ?_) AllReadyH.nil
              go_simp
              (go_at_call 42; refine (sOnly n ls x _ _ _ _ HLq.out.tri (by rw [← HSUB2.out]; exact cutI HLq.out.ints t (E + 2) (by omega) (by have := HM.out; omega)) HPQ2.out).mono ?_; rw [HON2.out]; rintro e w3 ⟨rfl, hb⟩; replace HLq := Lib.hid (HLq.out.below hb); replace HRq := Lib.hid ((OwnR.of HRq.out).below hb (Nat.le_refl _)).1; replace HBI := Lib.hid (HBI.out.trans (hb.mono HBI.out.size)); clear hb b0 b1 f0 f1 hb0; obtain ⟨b0, b1, f0, f1, hb0⟩ := box2 HLq.out.box)
              refine hK.out _ _ (by ((try dsimp only); (first | go_keep | exact ⟨b0, b1⟩))) (fun hHeld => ?_)
              clear hK K
              try simp only [List.getElem_toArray, List.getElem_cons_zero, List.getElem_cons_succ, Act.put, List.setIfInBounds_toArray, List.set_cons_zero, List.set_cons_succ]
              refine wpAnyH_take (i := 13) (oi := _) (v := ?_) rfl (by kernel_rfl) (by kernel_rfl) (by kernel_rfl) (fun _ _ _ h => h) (Or.inl ⟨by rfl, ?_⟩) (by assumption) ?_
              rotate_left
              focus (intro w hSw; (try dsimp only at hSw); go_simp; try (with_reducible rfl))
              try simp only [List.getElem_toArray, List.getElem_cons_zero, List.getElem_cons_succ, Act.put, List.setIfInBounds_toArray, List.set_cons_zero, List.set_cons_succ]
              refine wpAnyH_done (by kernel_rfl) ?_ _
              refine NoPanic.normal ?_
              go_wp2_with fail
              go_roundw
              case rel => exact ⟨e + 1, by omega, by have := HE.out; omega, by have := HE.out; congr 1; omega, Lib.hid (.inr HS2.out), HBI.out⟩
              case measure => simp [intOf]; omega
            | false =>
              refine wp_region_noPanic ?_
              refine wp_region_held_drew (S := (fun w' => w'.cell? ⟨w.heap.size, 0, none⟩ = some (.int .i64 n) ∧ w'.cell? ⟨w.heap.size, 1, none⟩ = some (.slice va vm vc))) (by kernel_rfl) (by ((try dsimp only); (first | go_keep | exact ⟨b0, b1⟩))) (fun hHeld => ?_)
              refine wpAnyH_take (i := 0) (oi := _) (v := ?_) rfl (by kernel_rfl) (by kernel_rfl) (by kernel_rfl) (fun _ _ _ h => h) (Or.inl ⟨by rfl, ?_⟩) (by assumption) ?_
              rotate_left
              focus (intro w hSw; (try dsimp only at hSw); go_simp; try (with_reducible rfl))
              try simp only [List.getElem_toArray, List.getElem_cons_zero, List.getElem_cons_succ, Act.put, List.setIfInBounds_toArray, List.set_cons_zero, List.set_cons_succ]
              refine wpAnyH_take (i := 1) (oi := _) (v := ?_) rfl (by kernel_rfl) (by kernel_rfl) (by kernel_rfl) (fun _ _ _ h => h) (Or.inl ⟨by rfl, ?_⟩) (by assumption) ?_
              rotate_left
              focus (intro w hSw; (try dsimp only at hSw); go_simp; try (with_reducible rfl))
              try simp only [List.getElem_toArray, List.getElem_cons_zero, List.getElem_cons_succ, Act.put, List.setIfInBounds_toArray, List.set_cons_zero, List.set_cons_succ]
              refine wpAnyH_take (i := 2) (oi := _) (v := ?_) rfl (by kernel_rfl) (by kernel_rfl) (by kernel_rfl) (fun _ _ _ h => h) (Or.inl ⟨by rfl, ?_⟩) (by assumption) ?_
              rotate_left
              focus (intro w hSw; (try dsimp only at hSw); go_simp; try (with_reducible rfl))
              try simp only [List.getElem_toArray, List.getElem_cons_zero, List.getElem_cons_succ, Act.put, List.setIfInBounds_toArray, List.set_cons_zero, List.set_cons_succ]
              refine wpAnyH_take (i := 3) (oi := _) (v := ?_) rfl (by kernel_rfl) (by kernel_rfl) (by kernel_rfl) (fun _ _ _ h => h) (Or.inl ⟨by rfl, ?_⟩) (by assumption) ?_
              rotate_left
              focus (intro w hSw; (try dsimp only at hSw); go_simp; try (with_reducible rfl))
              try simp only [List.getElem_toArray, List.getElem_cons_zero, List.getElem_cons_succ, Act.put, List.setIfInBounds_toArray, List.set_cons_zero, List.set_cons_succ]
              refine wpAnyH_take (i := 4) (oi := _) (v := ?_) rfl (by kernel_rfl) (by kernel_rfl) (by kernel_rfl) (fun _ _ _ h => h) (Or.inl ⟨by rfl, ?_⟩) (by assumption) ?_
              rotate_left
              focus (intro w hSw; (try dsimp only at hSw); go_simp; try (with_reducible rfl))
              try simp only [List.getElem_toArray, List.getElem_cons_zero, List.getElem_cons_succ, Act.put, List.setIfInBounds_toArray, List.set_cons_zero, List.set_cons_succ]
              refine wpAnyH_take (i := 5) (oi := _) (v := ?_) rfl (by kernel_rfl) (by kernel_rfl) (by kernel_rfl) (fun _ _ _ h => h) (Or.inl ⟨by rfl, ?_⟩) (by assumption) ?_
              rotate_left
              focus (intro w hSw; (try dsimp only at hSw); go_simp; try (with_reducible rfl))
              try simp only [List.getElem_toArray, List.getElem_cons_zero, List.getElem_cons_succ, Act.put, List.setIfInBounds_toArray, List.set_cons_zero, List.set_cons_succ]
              refine wpAnyH_take (i := 6) (oi := _) (v := ?_) rfl (by kernel_rfl) (by kernel_rfl) (by kernel_rfl) (fun _ _ _ h => h) (Or.inl ⟨by rfl, ?_⟩) (by assumption) ?_
              rotate_left
              focus (intro w hSw; (try dsimp only at hSw); go_simp; try (with_reducible rfl))
              try simp only [List.getElem_toArray, List.getElem_cons_zero, List.getElem_cons_succ, Act.put, List.setIfInBounds_toArray, List.set_cons_zero, List.set_cons_succ]
              refine wpAnyH_take (i := 7) (oi := _) (v := ?_) rfl (by kernel_rfl) (by kernel_rfl) (by kernel_rfl) (fun _ _ _ h => h) (Or.inl ⟨by rfl, ?_⟩) (by assumption) ?_
              rotate_left
              focus (intro w hSw; (try dsimp only at hSw); go_simp; try (with_reducible rfl))
              try simp only [List.getElem_toArray, List.getElem_cons_zero, List.getElem_cons_succ, Act.put, List.setIfInBounds_toArray, List.set_cons_zero, List.set_cons_succ]
              refine wpAnyH_take (i := 8) (oi := _) (v := ?_) rfl (by kernel_rfl) (by kernel_rfl) (by kernel_rfl) (fun _ _ _ h => h) (Or.inl ⟨by rfl, ?_⟩) (by assumption) ?_
              rotate_left
              focus (intro w hSw; (try dsimp only at hSw); go_simp; try (with_reducible rfl))
              try simp only [List.getElem_toArray, List.getElem_cons_zero, List.getElem_cons_succ, Act.put, List.setIfInBounds_toArray, List.set_cons_zero, List.set_cons_succ]
              refine wpAnyH_take (i := 9) (oi := _) (v := ?_) rfl (by kernel_rfl) (by kernel_rfl) (by kernel_rfl) (fun _ _ _ h => h) (Or.inl ⟨by rfl, ?_⟩) (by assumption) ?_
              rotate_left
              focus (intro w hSw; (try dsimp only at hSw); go_simp; try (with_reducible rfl))
              try simp only [List.getElem_toArray, List.getElem_cons_zero, List.getElem_cons_succ, Act.put, List.setIfInBounds_toArray, List.set_cons_zero, List.set_cons_succ]
              refine wpAnyH_take (i := 10) (oi := _) (v := ?_) rfl (by kernel_rfl) (by kernel_rfl) (by kernel_rfl) (fun _ _ _ h => h) (Or.inl ⟨by rfl, ?_⟩) (by assumption) ?_
              rotate_left
              focus (intro w hSw; (try dsimp only at hSw); go_simp; try (with_reducible rfl))
              try simp only [List.getElem_toArray, List.getElem_cons_zero, List.getElem_cons_succ, Act.put, List.setIfInBounds_toArray, List.set_cons_zero, List.set_cons_succ]
              refine wpAnyH_ready (rs := [11]) (by kernel_rfl) (by simp) ?_
              refine AllReadyH.cons (o := _) rfl (fun K hK => ?_) AllReadyH.nil
              go_simp
              refine hK.out _ _ (by ((try dsimp only); (first | go_keep | exact ⟨b0, b1⟩))) (fun hHeld => ?_)
              clear hK K
              try simp only [List.getElem_toArray, List.getElem_cons_zero, List.getElem_cons_succ, Act.put, List.setIfInBounds_toArray, List.set_cons_zero, List.set_cons_succ]
              refine wpAnyH_ready (rs := [12]) (by kernel_rfl) (by simp) ?_
              refine AllReadyH.cons (o := _) rfl (fun K hK => ?_) AllReadyH.nil
              go_simp
              (go_at_call 42; refine (sOnly n ls x _ _ _ _ HLq.out.tri (by rw [← HSUB2.out]; exact cutI HLq.out.ints t (E + 2) (by omega) (by have := HM.out; omega)) HPQ2.out).mono ?_; rw [HON2.out]; rintro e w3 ⟨rfl, hb⟩; replace HLq := Lib.hid (HLq.out.below hb); replace HRq := Lib.hid ((OwnR.of HRq.out).below hb (Nat.le_refl _)).1; replace HBI := Lib.hid (HBI.out.trans (hb.mono HBI.out.size)); clear hb b0 b1 f0 f1 hb0; obtain ⟨b0, b1, f0, f1, hb0⟩ := box2 HLq.out.box)
              refine hK.out _ _ (by ((try dsimp only); (first | go_keep | exact ⟨b0, b1⟩))) (fun hHeld => ?_)
              clear hK K
              try simp only [List.getElem_toArray, List.getElem_cons_zero, List.getElem_cons_succ, Act.put, List.setIfInBounds_toArray, List.set_cons_zero, List.set_cons_succ]
              refine wpAnyH_take (i := 13) (oi := _) (v := ?_) rfl (by kernel_rfl) (by kernel_rfl) (by kernel_rfl) (fun _ _ _ h => h) (Or.inl ⟨by rfl, ?_⟩) (by assumption) ?_
              rotate_left
              focus (intro w hSw; (try dsimp only at hSw); go_simp; try (with_reducible rfl))
              try simp only [List.getElem_toArray, List.getElem_cons_zero, List.getElem_cons_succ, Act.put, List.setIfInBounds_toArray, List.set_cons_zero, List.set_cons_succ]
              refine wpAnyH_done (by kernel_rfl) ?_ _
              refine NoPanic.normal ?_
              have HST : Hid (e = L.length - 1 - t ∨ segB n ls L t (e + 1) = false) := Lib.hid (.inr HS2.out)
              clear hs2 e1 hw4
              have HBE := Lib.hid (grow_best (segB_all HQ.out HX.out) he (show e ≤ L.length - 1 - t by have := HM.out; omega) HG1.out HST.out)
              have hs1 : ∀ W : World, (Instr.slice 26 (.slice (some ⟨b, off, none⟩) m cap) (some (.int .i64 (t : Int))) (some (.int .i64 ((E:Int) + 1))) none).run Try.prog W = .ok (.slice (cutA (some ⟨b, off, none⟩) cap t 1) (E + 1 - t) (cap - t)) W := fun W => by have h := run_mid (P := Try.prog) (A := some ⟨b, off, none⟩) (n := m) (c := cap) (l := (t:Int)) (k := (E:Int) + 1) Try.underlying26 HI1.out t (E + 1) rfl (by omega) (by have := HE.out; omega) (by have := HE.out; omega) W; rw [HY1.out] at h; exact h
              have hsub : (L.drop t).take (E + 1 - t) = x :: (L.drop (t + 1)).take e := by have := HE.out; rw [show E + 1 - t = e + 1 by omega]; exact cut_at HX.out
              have HSUB := Lib.hid hsub
              have HPQ := Lib.hid (path_sub HQ.out HX.out e)
              have HSG := Lib.hid (segB_at (n := n) (ls := ls) (e := e) HX.out)
              obtain ⟨z, hz⟩ := at_lt HM.out (show E < m by have := HE.out; omega)
              have HZZ := Lib.hid hz
              obtain ⟨S, hS⟩ : ∃ S, segB n ls L t e = S := ⟨_, rfl⟩
              have HS := Lib.hid hS
              rw [HSG.out] at hS
              have HON := Lib.hid hS
              clear hz hsub hS
              go_wp2_with fail
              replace HLq := Lib.hid HLq.out.drew
              replace HRq := Lib.hid (own_drew HRq.out)
              replace HBI := Lib.hid HBI.out.drew
              clear b0 b1 f0 f1 hb0
              obtain ⟨b0, b1, f0, f1, hb0⟩ := box2 HLq.out.box
              cases S with
              | true =>
                refine wp_region_noPanic ?_
                refine wp_region_held_drew (S := (fun w' => w'.cell? ⟨w.heap.size, 0, none⟩ = some (.int .i64 n) ∧ w'.cell? ⟨w.heap.size, 1, none⟩ = some (.slice va vm vc))) (by kernel_rfl) (by ((try dsimp only); (first | go_keep | exact ⟨b0, b1⟩))) (fun hHeld => ?_)
                refine wpAnyH_take (i := 0) (oi := _) (v := ?_) rfl (by kernel_rfl) (by kernel_rfl) (by kernel_rfl) (fun _ _ _ h => h) (Or.inl ⟨by rfl, ?_⟩) (by assumption) ?_
                rotate_left
                focus (intro w hSw; (try dsimp only at hSw); go_simp; try (with_reducible rfl))
                try simp only [List.getElem_toArray, List.getElem_cons_zero, List.getElem_cons_succ, Act.put, List.setIfInBounds_toArray, List.set_cons_zero, List.set_cons_succ]
                refine wpAnyH_take (i := 1) (oi := _) (v := ?_) rfl (by kernel_rfl) (by kernel_rfl) (by kernel_rfl) (fun _ _ _ h => h) (Or.inl ⟨by rfl, ?_⟩) (by assumption) ?_
                rotate_left
                focus (intro w hSw; (try dsimp only at hSw); go_simp; try (with_reducible rfl))
                try simp only [List.getElem_toArray, List.getElem_cons_zero, List.getElem_cons_succ, Act.put, List.setIfInBounds_toArray, List.set_cons_zero, List.set_cons_succ]
                refine wpAnyH_take (i := 2) (oi := _) (v := ?_) rfl (by kernel_rfl) (by kernel_rfl) (by kernel_rfl) (fun _ _ _ h => h) (Or.inl ⟨by rfl, ?_⟩) (by assumption) ?_
                rotate_left
                focus (intro w hSw; (try dsimp only at hSw); go_simp; try (with_reducible rfl))
                try simp only [List.getElem_toArray, List.getElem_cons_zero, List.getElem_cons_succ, Act.put, List.setIfInBounds_toArray, List.set_cons_zero, List.set_cons_succ]
                refine wpAnyH_take (i := 3) (oi := _) (v := ?_) rfl (by kernel_rfl) (by kernel_rfl) (by kernel_rfl) (fun _ _ _ h => h) (Or.inl ⟨by rfl, ?_⟩) (by assumption) ?_
                rotate_left
                focus (intro w hSw; (try dsimp only at hSw); go_simp; try (with_reducible rfl))
                try simp only [List.getElem_toArray, List.getElem_cons_zero, List.getElem_cons_succ, Act.put, List.setIfInBounds_toArray, List.set_cons_zero, List.set_cons_succ]
                refine wpAnyH_take (i := 4) (oi := _) (v := ?_) rfl (by kernel_rfl) (by kernel_rfl) (by kernel_rfl) (fun _ _ _ h => h) (Or.inl ⟨by rfl, ?_⟩) (by assumption) ?_
                rotate_left
                focus (intro w hSw; (try dsimp only at hSw); go_simp; try (with_reducible rfl))
                try simp only [List.getElem_toArray, List.getElem_cons_zero, List.getElem_cons_succ, Act.put, List.setIfInBounds_toArray, List.set_cons_zero, List.set_cons_succ]
                refine wpAnyH_ready (rs := [5]) (by kernel_rfl) (by simp) ?_
                refine AllReadyH.cons (o := _) rfl (fun K hK => ?_) AllReadyH.nil
                go_simp
                refine hK.out _ _ (by ((try dsimp only); (first | go_keep | exact ⟨b0, b1⟩))) (fun hHeld => ?_)
                clear hK K
                try simp only [List.getElem_toArray, List.getElem_cons_zero, List.getElem_cons_succ, Act.put, List.setIfInBounds_toArray, List.set_cons_zero, List.set_cons_succ]
                refine wpAnyH_ready (rs := [6]) (by kernel_rfl) (by simp) ?_
                refine AllReadyH.cons (o := _) rfl (fun K hK => ?_) AllReadyH.nil
                go_simp
                (go_at_call 42; refine (sOnly n ls x _ _ _ _ HLq.out.tri (by rw [← HSUB.out]; exact cutI HLq.out.ints t (E + 1) (by have := HE.out; omega) (by have := HE.out; have := HM.out; omega)) HPQ.out).mono ?_; rw [HON.out]; rintro e w4 ⟨rfl, hb⟩; replace HLq := Lib.hid (HLq.out.below hb); replace HRq := Lib.hid ((OwnR.of HRq.out).below hb (Nat.le_refl _)).1; replace HBI := Lib.hid (HBI.out.trans (hb.mono HBI.out.size)); clear hb b0 b1 f0 f1 hb0; obtain ⟨b0, b1, f0, f1, hb0⟩ := box2 HLq.out.box)
                refine hK.out _ _ (by ((try dsimp only); (first | go_keep | exact ⟨b0, b1⟩))) (fun hHeld => ?_)
                clear hK K
                try simp only [List.getElem_toArray, List.getElem_cons_zero, List.getElem_cons_succ, Act.put, List.setIfInBounds_toArray, List.set_cons_zero, List.set_cons_succ]
                refine wpAnyH_done (by kernel_rfl) ?_ _
                refine NoPanic.normal ?_
                have d0 := HLq.out.ints.get HZZ.out
                have hsz3 := HLq.out.bw.size
                have hbz3 := HLq.out.box.lt
                have hOl : O.length ≤ 9 := by omega
                go_wp2_with (at_builtin; refine wpList_append_rd rfl _ _ _ rfl (w.heap.size + 1) 56 i0 _ 2 16 Try.underlying29 HI.out HZ0.out HZ1.out HZ2.out rfl (by omega) (.slice sa O.length sc) O.length (cells2 O) rfl (HRq.out.alloc _) (some ⟨w4.heap.size, 0, none⟩) 1 1 [.int .i64 1, .int .i64 z] rfl (srcAt_one (n := 1) (o := 2) (box_new w4 #[.int .i64 1, .int .i64 z] _) rfl) (by simp [Value.oneCell']) (by unfold maxLen; omega) (by omega) (by simp; omega) ?_; intro v' w5 hown3 hgrow hloc)
                have HL5 := Lib.hid ((HLq.out.alloc (.cells #[.int .i64 1, .int .i64 z] 56)).grow HV.out HU.out hgrow (fun j hj => (HRq.out.lt j hj).1) (Nat.le_refl _))
                obtain ⟨na, nc, rfl⟩ := own_slice hown3
                have HOWN := Lib.hid hown3
                clear hown3 hgrow hloc d0
                go_wp2_with fail
                go_roundw
                case rel =>
                  have hE := HE.out
                  have hb : bestK (segB n ls L t) (L.length - 1 - t) = e := by rw [HBE.out, if_pos HS.out]
                  refine ⟨E, O ++ [(1, z)], by omega, rfl, by simp; omega, Lib.hid ?_, ?_, HL5.out⟩
                  · rw [← HT.out, compT_yes he (by rw [← hE]; exact HZZ.out) hb, ← hE, List.append_assoc]; rfl
                  · have e2 : cells2 (O ++ [(1, z)]) = cells2 O ++ [.int .i64 1, .int .i64 z] := by simp [cells2]
                    rw [e2, List.length_append]; exact HOWN.out
                case measure => have hE := HE.out; simp [intOf]; omega
              | false =>
                refine wp_region_noPanic ?_
                refine wp_region_held_drew (S := (fun w' => w'.cell? ⟨w.heap.size, 0, none⟩ = some (.int .i64 n) ∧ w'.cell? ⟨w.heap.size, 1, none⟩ = some (.slice va vm vc))) (by kernel_rfl) (by ((try dsimp only); (first | go_keep | exact ⟨b0, b1⟩))) (fun hHeld => ?_)
                refine wpAnyH_take (i := 0) (oi := _) (v := ?_) rfl (by kernel_rfl) (by kernel_rfl) (by kernel_rfl) (fun _ _ _ h => h) (Or.inl ⟨by rfl, ?_⟩) (by assumption) ?_
                rotate_left
                focus (intro w hSw; (try dsimp only at hSw); go_simp; try (with_reducible rfl))
                try simp only [List.getElem_toArray, List.getElem_cons_zero, List.getElem_cons_succ, Act.put, List.setIfInBounds_toArray, List.set_cons_zero, List.set_cons_succ]
                refine wpAnyH_take (i := 1) (oi := _) (v := ?_) rfl (by kernel_rfl) (by kernel_rfl) (by kernel_rfl) (fun _ _ _ h => h) (Or.inl ⟨by rfl, ?_⟩) (by assumption) ?_
                rotate_left
                focus (intro w hSw; (try dsimp only at hSw); go_simp; try (with_reducible rfl))
                try simp only [List.getElem_toArray, List.getElem_cons_zero, List.getElem_cons_succ, Act.put, List.setIfInBounds_toArray, List.set_cons_zero, List.set_cons_succ]
                refine wpAnyH_take (i := 2) (oi := _) (v := ?_) rfl (by kernel_rfl) (by kernel_rfl) (by kernel_rfl) (fun _ _ _ h => h) (Or.inl ⟨by rfl, ?_⟩) (by assumption) ?_
                rotate_left
                focus (intro w hSw; (try dsimp only at hSw); go_simp; try (with_reducible rfl))
                try simp only [List.getElem_toArray, List.getElem_cons_zero, List.getElem_cons_succ, Act.put, List.setIfInBounds_toArray, List.set_cons_zero, List.set_cons_succ]
                refine wpAnyH_take (i := 3) (oi := _) (v := ?_) rfl (by kernel_rfl) (by kernel_rfl) (by kernel_rfl) (fun _ _ _ h => h) (Or.inl ⟨by rfl, ?_⟩) (by assumption) ?_
                rotate_left
                focus (intro w hSw; (try dsimp only at hSw); go_simp; try (with_reducible rfl))
                try simp only [List.getElem_toArray, List.getElem_cons_zero, List.getElem_cons_succ, Act.put, List.setIfInBounds_toArray, List.set_cons_zero, List.set_cons_succ]
                refine wpAnyH_take (i := 4) (oi := _) (v := ?_) rfl (by kernel_rfl) (by kernel_rfl) (by kernel_rfl) (fun _ _ _ h => h) (Or.inl ⟨by rfl, ?_⟩) (by assumption) ?_
                rotate_left
                focus (intro w hSw; (try dsimp only at hSw); go_simp; try (with_reducible rfl))
                try simp only [List.getElem_toArray, List.getElem_cons_zero, List.getElem_cons_succ, Act.put, List.setIfInBounds_toArray, List.set_cons_zero, List.set_cons_succ]
                refine wpAnyH_ready (rs := [5]) (by kernel_rfl) (by simp) ?_
                refine AllReadyH.cons (o := _) rfl (fun K hK => ?_) AllReadyH.nil
                go_simp
                refine hK.out _ _ (by ((try dsimp only); (first | go_keep | exact ⟨b0, b1⟩))) (fun hHeld => ?_)
                clear hK K
                try simp only [List.getElem_toArray, List.getElem_cons_zero, List.getElem_cons_succ, Act.put, List.setIfInBounds_toArray, List.set_cons_zero, List.set_cons_succ]
                refine wpAnyH_ready (rs := [6]) (by kernel_rfl) (by simp) ?_
                refine AllReadyH.cons (o := _) rfl (fun K hK => ?_) AllReadyH.nil
                go_simp
                (go_at_call 42; refine (sOnly n ls x _ _ _ _ HLq.out.tri (by rw [← HSUB.out]; exact cutI HLq.out.ints t (E + 1) (by have := HE.out; omega) (by have := HE.out; have := HM.out; omega)) HPQ.out).mono ?_; rw [HON.out]; rintro e w4 ⟨rfl, hb⟩; replace HLq := Lib.hid (HLq.out.below hb); replace HRq := Lib.hid ((OwnR.of HRq.out).below hb (Nat.le_refl _)).1; replace HBI := Lib.hid (HBI.out.trans (hb.mono HBI.out.size)); clear hb b0 b1 f0 f1 hb0; obtain ⟨b0, b1, f0, f1, hb0⟩ := box2 HLq.out.box)
                refine hK.out _ _ (by ((try dsimp only); (first | go_keep | exact ⟨b0, b1⟩))) (fun hHeld => ?_)
                clear hK K
                try simp only [List.getElem_toArray, List.getElem_cons_zero, List.getElem_cons_succ, Act.put, List.setIfInBounds_toArray, List.set_cons_zero, List.set_cons_succ]
                refine wpAnyH_done (by kernel_rfl) ?_ _
                refine NoPanic.normal ?_
                have d0 := HLq.out.ints.get HX.out
                have d1 := HLq.out.ints.get HY.out
                have hw9 : IntKind.i64.wrap ((t:Int) + 1) = (t:Int) + 1 := IntWalk.i64_in _ (by omega)
                have hJ2 : (t:Int) < (m:Int) := by omega
                have hJ4 : (t:Int) + 1 < (m:Int) := by omega
                have hJ5 : (0:Int) ≤ (t:Int) + 1 := by omega
                have hJ6 : ((t:Int) + 1).toNat = t + 1 := by omega
                obtain ⟨kk, hkk⟩ : ∃ kk, lkOf ls x y = kk := ⟨_, rfl⟩
                have HKK := Lib.hid hkk
                clear hkk
                go_wp2_with fail
                replace HLq := Lib.hid HLq.out.drew
                replace HRq := Lib.hid (own_drew HRq.out)
                replace HBI := Lib.hid HBI.out.drew
                clear b0 b1 f0 f1 hb0
                obtain ⟨b0, b1, f0, f1, hb0⟩ := box2 HLq.out.box
                refine wp_region_noPanic ?_
                refine wp_region_held_drew (S := (fun w' => w'.cell? ⟨w.heap.size, 0, none⟩ = some (.int .i64 n) ∧ w'.cell? ⟨w.heap.size, 1, none⟩ = some (.slice va vm vc) ∧ w'.cell? ⟨b, off + t, none⟩ = some (.int .i64 x) ∧ w'.cell? ⟨b, off + (t + 1), none⟩ = some (.int .i64 y))) (by kernel_rfl) (by ((try dsimp only); (first | go_keep | exact ⟨b0, b1, d0, d1⟩))) (fun hHeld => ?_)
                refine wpAnyH_take (i := 0) (oi := _) (v := ?_) rfl (by kernel_rfl) (by kernel_rfl) (by kernel_rfl) (fun _ _ _ h => h) (Or.inl ⟨by rfl, ?_⟩) (by assumption) ?_
                rotate_left
                focus (intro w hSw; (try dsimp only at hSw); go_simp; try (with_reducible rfl))
                try simp only [List.getElem_toArray, List.getElem_cons_zero, List.getElem_cons_succ, Act.put, List.setIfInBounds_toArray, List.set_cons_zero, List.set_cons_succ]
                refine wpAnyH_take (i := 1) (oi := _) (v := ?_) rfl (by kernel_rfl) (by kernel_rfl) (by kernel_rfl) (fun _ _ _ h => h) (Or.inl ⟨by rfl, ?_⟩) (by assumption) ?_
                rotate_left
                focus (intro w hSw; (try dsimp only at hSw); go_simp; try (with_reducible rfl))
                try simp only [List.getElem_toArray, List.getElem_cons_zero, List.getElem_cons_succ, Act.put, List.setIfInBounds_toArray, List.set_cons_zero, List.set_cons_succ]
                refine wpAnyH_take (i := 2) (oi := _) (v := ?_) rfl (by kernel_rfl) (by kernel_rfl) (by kernel_rfl) (fun _ _ _ h => h) (Or.inl ⟨by rfl, ?_⟩) (by assumption) ?_
                rotate_left
                focus (intro w hSw; (try dsimp only at hSw); go_simp; try (with_reducible rfl))
                try simp only [List.getElem_toArray, List.getElem_cons_zero, List.getElem_cons_succ, Act.put, List.setIfInBounds_toArray, List.set_cons_zero, List.set_cons_succ]
                refine wpAnyH_take (i := 3) (oi := _) (v := ?_) rfl (by kernel_rfl) (by kernel_rfl) (by kernel_rfl) (fun _ _ _ h => h) (Or.inl ⟨by rfl, ?_⟩) (by assumption) ?_
                rotate_left
                focus (intro w hSw; (try dsimp only at hSw); go_simp; try (with_reducible rfl))
                try simp only [List.getElem_toArray, List.getElem_cons_zero, List.getElem_cons_succ, Act.put, List.setIfInBounds_toArray, List.set_cons_zero, List.set_cons_succ]
                refine wpAnyH_take (i := 4) (oi := _) (v := ?_) rfl (by kernel_rfl) (by kernel_rfl) (by kernel_rfl) (fun _ _ _ h => h) (Or.inl ⟨by rfl, ?_⟩) (by assumption) ?_
                rotate_left
                focus (intro w hSw; (try dsimp only at hSw); go_simp; try (with_reducible rfl))
                try simp only [List.getElem_toArray, List.getElem_cons_zero, List.getElem_cons_succ, Act.put, List.setIfInBounds_toArray, List.set_cons_zero, List.set_cons_succ]
                refine wpAnyH_take (i := 5) (oi := _) (v := ?_) rfl (by kernel_rfl) (by kernel_rfl) (by kernel_rfl) (fun _ _ _ h => h) (Or.inl ⟨by rfl, ?_⟩) (by assumption) ?_
                rotate_left
                focus (intro w hSw; (try dsimp only at hSw); go_simp; try (with_reducible rfl))
                try simp only [List.getElem_toArray, List.getElem_cons_zero, List.getElem_cons_succ, Act.put, List.setIfInBounds_toArray, List.set_cons_zero, List.set_cons_succ]
                refine wpAnyH_take (i := 6) (oi := _) (v := ?_) rfl (by kernel_rfl) (by kernel_rfl) (by kernel_rfl) (fun _ _ _ h => h) (Or.inl ⟨by rfl, ?_⟩) (by assumption) ?_
                rotate_left
                focus (intro w hSw; (try dsimp only at hSw); go_simp; try (with_reducible rfl))
                try simp only [List.getElem_toArray, List.getElem_cons_zero, List.getElem_cons_succ, Act.put, List.setIfInBounds_toArray, List.set_cons_zero, List.set_cons_succ]
                refine wpAnyH_take (i := 7) (oi := _) (v := ?_) rfl (by kernel_rfl) (by kernel_rfl) (by kernel_rfl) (fun _ _ _ h => h) (Or.inl ⟨by rfl, ?_⟩) (by assumption) ?_
                rotate_left
                focus (intro w hSw; (try dsimp only at hSw); go_simp; try (with_reducible rfl))
                try simp only [List.getElem_toArray, List.getElem_cons_zero, List.getElem_cons_succ, Act.put, List.setIfInBounds_toArray, List.set_cons_zero, List.set_cons_succ]
                refine wpAnyH_take (i := 8) (oi := _) (v := ?_) rfl (by kernel_rfl) (by kernel_rfl) (by kernel_rfl) (fun _ _ _ h => h) (Or.inl ⟨by rfl, ?_⟩) (by assumption) ?_
                rotate_left
                focus (intro w hSw; (try dsimp only at hSw); go_simp; try (with_reducible rfl))
                try simp only [List.getElem_toArray, List.getElem_cons_zero, List.getElem_cons_succ, Act.put, List.setIfInBounds_toArray, List.set_cons_zero, List.set_cons_succ]
                refine wpAnyH_take (i := 9) (oi := _) (v := ?_) rfl (by kernel_rfl) (by kernel_rfl) (by kernel_rfl) (fun _ _ _ h => h) (Or.inl ⟨by rfl, ?_⟩) (by assumption) ?_
                rotate_left
                focus (intro w hSw; (try dsimp only at hSw); go_simp; try (with_reducible rfl))
                try simp only [List.getElem_toArray, List.getElem_cons_zero, List.getElem_cons_succ, Act.put, List.setIfInBounds_toArray, List.set_cons_zero, List.set_cons_succ]
                refine wpAnyH_ready (rs := [10]) (by kernel_rfl) (by simp) ?_
                refine AllReadyH.cons (o := _) rfl (fun K hK => ?_) AllReadyH.nil
                go_simp
                (go_at_call 43; refine (sLinkOf n ls x y _ _ HLq.out.tri).mono ?_; rw [HKK.out]; rintro e w5 ⟨rfl, hb⟩; replace HLq := Lib.hid (HLq.out.below hb); replace HRq := Lib.hid ((OwnR.of HRq.out).below hb (Nat.le_refl _)).1; replace d0 := cell_below hb d0 (cell_lt d0); replace d1 := cell_below hb d1 (cell_lt d1); clear hb b0 b1 f0 f1 hb0; obtain ⟨b0, b1, f0, f1, hb0⟩ := box2 HLq.out.box)
                refine hK.out _ _ (by ((try dsimp only); (first | go_keep | exact ⟨b0, b1, d0, d1⟩))) (fun hHeld => ?_)
                clear hK K
                try simp only [List.getElem_toArray, List.getElem_cons_zero, List.getElem_cons_succ, Act.put, List.setIfInBounds_toArray, List.set_cons_zero, List.set_cons_succ]
                refine wpAnyH_take (i := 11) (oi := _) (v := ?_) rfl (by kernel_rfl) (by kernel_rfl) (by kernel_rfl) (fun _ _ _ h => h) (Or.inl ⟨by rfl, ?_⟩) (by assumption) ?_
                rotate_left
                focus (intro w hSw; (try dsimp only at hSw); go_simp; try (with_reducible rfl))
                try simp only [List.getElem_toArray, List.getElem_cons_zero, List.getElem_cons_succ, Act.put, List.setIfInBounds_toArray, List.set_cons_zero, List.set_cons_succ]
                refine wpAnyH_ready (rs := [12]) (by kernel_rfl) (by simp) ?_
                refine AllReadyH.cons (o := _) rfl (fun K hK => ?_) AllReadyH.nil
                go_simp
                (have SB := Lib.hid (box_new w5 #[.int .i64 2, .int .i64 kk] 56); have hb : Below w5.heap.size w5 (w5.alloc (.cells #[.int .i64 2, .int .i64 kk] 56)) := ((Below.refl _ _).alloc (Nat.le_refl _) _); have hws := HLq.out.box.lt; replace HLq := Lib.hid (HLq.out.below hb); replace HRq := Lib.hid (HRq.out.alloc (.cells #[.int .i64 2, .int .i64 kk] 56)); replace d0 := cell_below hb d0 (cell_lt d0); replace d1 := cell_below hb d1 (cell_lt d1); clear hb b0 b1 f0 f1 hb0; obtain ⟨b0, b1, f0, f1, hb0⟩ := box2 HLq.out.box)
                refine hK.out _ _ (by ((try dsimp only); (first | go_keep | exact ⟨b0, b1, d0, d1⟩))) (fun hHeld => ?_)
                clear hK K
                try simp only [List.getElem_toArray, List.getElem_cons_zero, List.getElem_cons_succ, Act.put, List.setIfInBounds_toArray, List.set_cons_zero, List.set_cons_succ]
                refine wpAnyH_ready (rs := [13]) (by kernel_rfl) (by simp) ?_
                refine AllReadyH.cons (o := _) rfl (fun K hK => ?_) AllReadyH.nil
                (refine step_append_rd (by rfl) _ _ _ (by rfl) (w.heap.size + 1) 56 i0 _ 2 16 Try.underlying29 HI.out HZ0.out HZ1.out HZ2.out rfl (by omega) (.slice sa O.length sc) O.length (cells2 O) (by rfl) HRq.out (some ⟨w5.heap.size, 0, none⟩) 1 1 [.int .i64 2, .int .i64 kk] (by rfl) (srcAt_one (n := 1) (o := 2) SB.out rfl) (by simp [Value.oneCell']) (by unfold maxLen; omega) (by omega) (by simp; omega) ?_; intro v' w7 hown3 hgrow hloc; have HL7 := Lib.hid (HLq.out.grow HV.out HU.out hgrow (fun j hj => (HRq.out.lt j hj).1) (Nat.le_refl _)); clear b0 b1 f0 f1 hb0; obtain ⟨b0, b1, f0, f1, hb0⟩ := box2 HL7.out.box; have HIT := HL7.out.ints; clear d0 d1; have d0 := HIT.get HX.out; have d1 := HIT.get HY.out)
                refine hK.out _ _ (by ((try dsimp only); (first | go_keep | exact ⟨b0, b1, d0, d1⟩))) (fun hHeld => ?_)
                clear hK K
                try simp only [List.getElem_toArray, List.getElem_cons_zero, List.getElem_cons_succ, Act.put, List.setIfInBounds_toArray, List.set_cons_zero, List.set_cons_succ]
                refine wpAnyH_take (i := 14) (oi := _) (v := ?_) rfl (by kernel_rfl) (by kernel_rfl) (by kernel_rfl) (fun _ _ _ h => h) (Or.inl ⟨by rfl, ?_⟩) (by assumption) ?_
                rotate_left
                focus (intro w hSw; (try dsimp only at hSw); go_simp; try (with_reducible rfl))
                try simp only [List.getElem_toArray, List.getElem_cons_zero, List.getElem_cons_succ, Act.put, List.setIfInBounds_toArray, List.set_cons_zero, List.set_cons_succ]
                refine wpAnyH_done (by kernel_rfl) ?_ _
                refine NoPanic.normal ?_
                obtain ⟨na, nc, rfl⟩ := own_slice hown3
                have HOWN := Lib.hid hown3
                clear hown3 hgrow hloc
                go_wp2_with fail
                go_roundw
                case rel =>
                  have hb : bestK (segB n ls L t) (L.length - 1 - t) = 0 := by rw [HBE.out, if_neg (by simp [HS.out])]
                  refine ⟨t + 1, O ++ [(2, kk)], by omega, by go_num, by simp; omega, Lib.hid ?_, ?_, HL7.out⟩
                  · rw [← HT.out, compT_no HX.out HY.out hb, HKK.out, List.append_assoc]; rfl
                  · have e2 : cells2 (O ++ [(2, kk)]) = cells2 O ++ [.int .i64 2, .int .i64 kk] := by simp [cells2]
                    rw [e2, List.length_append]; exact HOWN.out
                case measure => simp [intOf]; omega
          · have e1 : decide ((E:Int) + 1 < (m:Int)) = false := decide_eq_false (by omega)
            have HST : Hid (e = L.length - 1 - t ∨ segB n ls L t (e + 1) = false) := Lib.hid (.inl (by have := HE.out; have := HM.out; omega))
            go_wp2_with fail
            replace HLq := Lib.hid HLq.out.drew
            replace HRq := Lib.hid (own_drew HRq.out)
            replace HBI := Lib.hid HBI.out.drew
            clear b0 b1 f0 f1 hb0
            obtain ⟨b0, b1, f0, f1, hb0⟩ := box2 HLq.out.box
            refine wp_region_noPanic ?_
            refine wp_region_held_drew (S := (fun w' => w'.cell? ⟨w.heap.size, 0, none⟩ = some (.int .i64 n) ∧ w'.cell? ⟨w.heap.size, 1, none⟩ = some (.slice va vm vc))) (by kernel_rfl) (by ((try dsimp only); (first | go_keep | exact ⟨b0, b1⟩))) (fun hHeld => ?_)
            refine wpAnyH_take (i := 0) (oi := _) (v := ?_) rfl (by kernel_rfl) (by kernel_rfl) (by kernel_rfl) (fun _ _ _ h => h) (Or.inl ⟨by rfl, ?_⟩) (by assumption) ?_
            rotate_left
            focus (intro w hSw; (try dsimp only at hSw); go_simp; try (with_reducible rfl))
            try simp only [List.getElem_toArray, List.getElem_cons_zero, List.getElem_cons_succ, Act.put, List.setIfInBounds_toArray, List.set_cons_zero, List.set_cons_succ]
            refine wpAnyH_take (i := 1) (oi := _) (v := ?_) rfl (by kernel_rfl) (by kernel_rfl) (by kernel_rfl) (fun _ _ _ h => h) (Or.inl ⟨by rfl, ?_⟩) (by assumption) ?_
            rotate_left
            focus (intro w hSw; (try dsimp only at hSw); go_simp; try (with_reducible rfl))
            try simp only [List.getElem_toArray, List.getElem_cons_zero, List.getElem_cons_succ, Act.put, List.setIfInBounds_toArray, List.set_cons_zero, List.set_cons_succ]
            refine wpAnyH_take (i := 2) (oi := _) (v := ?_) rfl (by kernel_rfl) (by kernel_rfl) (by kernel_rfl) (fun _ _ _ h => h) (Or.inl ⟨by rfl, ?_⟩) (by assumption) ?_
            rotate_left
            focus (intro w hSw; (try dsimp only at hSw); go_simp; try (with_reducible rfl))
            try simp only [List.getElem_toArray, List.getElem_cons_zero, List.getElem_cons_succ, Act.put, List.setIfInBounds_toArray, List.set_cons_zero, List.set_cons_succ]
            refine wpAnyH_take (i := 3) (oi := _) (v := ?_) rfl (by kernel_rfl) (by kernel_rfl) (by kernel_rfl) (fun _ _ _ h => h) (Or.inl ⟨by rfl, ?_⟩) (by assumption) ?_
            rotate_left
            focus (intro w hSw; (try dsimp only at hSw); go_simp; try (with_reducible rfl))
            try simp only [List.getElem_toArray, List.getElem_cons_zero, List.getElem_cons_succ, Act.put, List.setIfInBounds_toArray, List.set_cons_zero, List.set_cons_succ]
            refine wpAnyH_take (i := 4) (oi := _) (v := ?_) rfl (by kernel_rfl) (by kernel_rfl) (by kernel_rfl) (fun _ _ _ h => h) (Or.inl ⟨by rfl, ?_⟩) (by assumption) ?_
            rotate_left
            focus (intro w hSw; (try dsimp only at hSw); go_simp; try (with_reducible rfl))
            try simp only [List.getElem_toArray, List.getElem_cons_zero, List.getElem_cons_succ, Act.put, List.setIfInBounds_toArray, List.set_cons_zero, List.set_cons_succ]
            refine wpAnyH_take (i := 5) (oi := _) (v := ?_) rfl (by kernel_rfl) (by kernel_rfl) (by kernel_rfl) (fun _ _ _ h => h) (Or.inl ⟨by rfl, ?_⟩) (by assumption) ?_
            rotate_left
            focus (intro w hSw; (try dsimp only at hSw); go_simp; try (with_reducible rfl))
            try simp only [List.getElem_toArray, List.getElem_cons_zero, List.getElem_cons_succ, Act.put, List.setIfInBounds_toArray, List.set_cons_zero, List.set_cons_succ]
            refine wpAnyH_take (i := 6) (oi := _) (v := Go.undef) rfl (by kernel_rfl) (by kernel_rfl) (by kernel_rfl) (fun _ _ _ h => h) (Or.inr ⟨by rfl, rfl⟩) (by assumption) ?_
            try simp only [List.getElem_toArray, List.getElem_cons_zero, List.getElem_cons_succ, Act.put, List.setIfInBounds_toArray, List.set_cons_zero, List.set_cons_succ]
            refine wpAnyH_take (i := 7) (oi := _) (v := Go.undef) rfl (by kernel_rfl) (by kernel_rfl) (by kernel_rfl) (fun _ _ _ h => h) (Or.inr ⟨by rfl, rfl⟩) (by assumption) ?_
            try simp only [List.getElem_toArray, List.getElem_cons_zero, List.getElem_cons_succ, Act.put, List.setIfInBounds_toArray, List.set_cons_zero, List.set_cons_succ]
            refine wpAnyH_take (i := 8) (oi := _) (v := Go.undef) rfl (by kernel_rfl) (by kernel_rfl) (by kernel_rfl) (fun _ _ _ h => h) (Or.inr ⟨by rfl, rfl⟩) (by assumption) ?_
            try simp only [List.getElem_toArray, List.getElem_cons_zero, List.getElem_cons_succ, Act.put, List.setIfInBounds_toArray, List.set_cons_zero, List.set_cons_succ]
            refine wpAnyH_take (i := 9) (oi := _) (v := Go.undef) rfl (by kernel_rfl) (by kernel_rfl) (by kernel_rfl) (fun _ _ _ h => h) (Or.inr ⟨by rfl, rfl⟩) (by assumption) ?_
            try simp only [List.getElem_toArray, List.getElem_cons_zero, List.getElem_cons_succ, Act.put, List.setIfInBounds_toArray, List.set_cons_zero, List.set_cons_succ]
            refine wpAnyH_take (i := 10) (oi := _) (v := Go.undef) rfl (by kernel_rfl) (by kernel_rfl) (by kernel_rfl) (fun _ _ _ h => h) (Or.inr ⟨by rfl, rfl⟩) (by assumption) ?_
            try simp only [List.getElem_toArray, List.getElem_cons_zero, List.getElem_cons_succ, Act.put, List.setIfInBounds_toArray, List.set_cons_zero, List.set_cons_succ]
            refine wpAnyH_take (i := 11) (oi := _) (v := Go.undef) rfl (by kernel_rfl) (by kernel_rfl) (by kernel_rfl) (fun _ _ _ h => h) (Or.inr ⟨by rfl, rfl⟩) (by assumption) ?_
            try simp only [List.getElem_toArray, List.getElem_cons_zero, List.getElem_cons_succ, Act.put, List.setIfInBounds_toArray, List.set_cons_zero, List.set_cons_succ]
            refine wpAnyH_take (i := 12) (oi := _) (v := Go.undef) rfl (by kernel_rfl) (by kernel_rfl) (by kernel_rfl) (fun _ _ _ h => h) (Or.inr ⟨by rfl, rfl⟩) (by assumption) ?_
            try simp only [List.getElem_toArray, List.getElem_cons_zero, List.getElem_cons_succ, Act.put, List.setIfInBounds_toArray, List.set_cons_zero, List.set_cons_succ]
            refine wpAnyH_take (i := 13) (oi := _) (v := ?_) rfl (by kernel_rfl) (by kernel_rfl) (by kernel_rfl) (fun _ _ _ h => h) (Or.inl ⟨by rfl, ?_⟩) (by assumption) ?_
            rotate_left
            focus (intro w hSw; (try dsimp only at hSw); go_simp; try (with_reducible rfl))
            try simp only [List.getElem_toArray, List.getElem_cons_zero, List.getElem_cons_succ, Act.put, List.setIfInBounds_toArray, List.set_cons_zero, List.set_cons_succ]
            refine wpAnyH_done (by kernel_rfl) ?_ _
            refine NoPanic.normal ?_
            clear e1 hw4
            have HBE := Lib.hid (grow_best (segB_all HQ.out HX.out) he (show e ≤ L.length - 1 - t by have := HM.out; omega) HG1.out HST.out)
            have hs1 : ∀ W : World, (Instr.slice 26 (.slice (some ⟨b, off, none⟩) m cap) (some (.int .i64 (t : Int))) (some (.int .i64 ((E:Int) + 1))) none).run Try.prog W = .ok (.slice (cutA (some ⟨b, off, none⟩) cap t 1) (E + 1 - t) (cap - t)) W := fun W => by have h := run_mid (P := Try.prog) (A := some ⟨b, off, none⟩) (n := m) (c := cap) (l := (t:Int)) (k := (E:Int) + 1) Try.underlying26 HI1.out t (E + 1) rfl (by omega) (by have := HE.out; omega) (by have := HE.out; omega) W; rw [HY1.out] at h; exact h
            have hsub : (L.drop t).take (E + 1 - t) = x :: (L.drop (t + 1)).take e := by have := HE.out; rw [show E + 1 - t = e + 1 by omega]; exact cut_at HX.out
            have HSUB := Lib.hid hsub
            have HPQ := Lib.hid (path_sub HQ.out HX.out e)
            have HSG := Lib.hid (segB_at (n := n) (ls := ls) (e := e) HX.out)
            obtain ⟨z, hz⟩ := at_lt HM.out (show E < m by have := HE.out; omega)
            have HZZ := Lib.hid hz
            obtain ⟨S, hS⟩ : ∃ S, segB n ls L t e = S := ⟨_, rfl⟩
            have HS := Lib.hid hS
            rw [HSG.out] at hS
            have HON := Lib.hid hS
            clear hz hsub hS
            go_wp2_with fail
            replace HLq := Lib.hid HLq.out.drew
            replace HRq := Lib.hid (own_drew HRq.out)
            replace HBI := Lib.hid HBI.out.drew
            clear b0 b1 f0 f1 hb0
            obtain ⟨b0, b1, f0, f1, hb0⟩ := box2 HLq.out.box
            cases S with
            | true =>
              refine wp_region_noPanic ?_
              refine wp_region_held_drew (S := (fun w' => w'.cell? ⟨w.heap.size, 0, none⟩ = some (.int .i64 n) ∧ w'.cell? ⟨w.heap.size, 1, none⟩ = some (.slice va vm vc))) (by kernel_rfl) (by ((try dsimp only); (first | go_keep | exact ⟨b0, b1⟩))) (fun hHeld => ?_)
              refine wpAnyH_take (i := 0) (oi := _) (v := ?_) rfl (by kernel_rfl) (by kernel_rfl) (by kernel_rfl) (fun _ _ _ h => h) (Or.inl ⟨by rfl, ?_⟩) (by assumption) ?_
              rotate_left
              focus (intro w hSw; (try dsimp only at hSw); go_simp; try (with_reducible rfl))
              try simp only [List.getElem_toArray, List.getElem_cons_zero, List.getElem_cons_succ, Act.put, List.setIfInBounds_toArray, List.set_cons_zero, List.set_cons_succ]
              refine wpAnyH_take (i := 1) (oi := _) (v := ?_) rfl (by kernel_rfl) (by kernel_rfl) (by kernel_rfl) (fun _ _ _ h => h) (Or.inl ⟨by rfl, ?_⟩) (by assumption) ?_
              rotate_left
              focus (intro w hSw; (try dsimp only at hSw); go_simp; try (with_reducible rfl))
              try simp only [List.getElem_toArray, List.getElem_cons_zero, List.getElem_cons_succ, Act.put, List.setIfInBounds_toArray, List.set_cons_zero, List.set_cons_succ]
              refine wpAnyH_take (i := 2) (oi := _) (v := ?_) rfl (by kernel_rfl) (by kernel_rfl) (by kernel_rfl) (fun _ _ _ h => h) (Or.inl ⟨by rfl, ?_⟩) (by assumption) ?_
              rotate_left
              focus (intro w hSw; (try dsimp only at hSw); go_simp; try (with_reducible rfl))
              try simp only [List.getElem_toArray, List.getElem_cons_zero, List.getElem_cons_succ, Act.put, List.setIfInBounds_toArray, List.set_cons_zero, List.set_cons_succ]
              refine wpAnyH_take (i := 3) (oi := _) (v := ?_) rfl (by kernel_rfl) (by kernel_rfl) (by kernel_rfl) (fun _ _ _ h => h) (Or.inl ⟨by rfl, ?_⟩) (by assumption) ?_
              rotate_left
              focus (intro w hSw; (try dsimp only at hSw); go_simp; try (with_reducible rfl))
              try simp only [List.getElem_toArray, List.getElem_cons_zero, List.getElem_cons_succ, Act.put, List.setIfInBounds_toArray, List.set_cons_zero, List.set_cons_succ]
              refine wpAnyH_take (i := 4) (oi := _) (v := ?_) rfl (by kernel_rfl) (by kernel_rfl) (by kernel_rfl) (fun _ _ _ h => h) (Or.inl ⟨by rfl, ?_⟩) (by assumption) ?_
              rotate_left
              focus (intro w hSw; (try dsimp only at hSw); go_simp; try (with_reducible rfl))
              try simp only [List.getElem_toArray, List.getElem_cons_zero, List.getElem_cons_succ, Act.put, List.setIfInBounds_toArray, List.set_cons_zero, List.set_cons_succ]
              refine wpAnyH_ready (rs := [5]) (by kernel_rfl) (by simp) ?_
              refine AllReadyH.cons (o := _) rfl (fun K hK => ?_) AllReadyH.nil
              go_simp
              refine hK.out _ _ (by ((try dsimp only); (first | go_keep | exact ⟨b0, b1⟩))) (fun hHeld => ?_)
              clear hK K
              try simp only [List.getElem_toArray, List.getElem_cons_zero, List.getElem_cons_succ, Act.put, List.setIfInBounds_toArray, List.set_cons_zero, List.set_cons_succ]
              refine wpAnyH_ready (rs := [6]) (by kernel_rfl) (by simp) ?_
              refine AllReadyH.cons (o := _) rfl (fun K hK => ?_) AllReadyH.nil
              go_simp
              (go_at_call 42; refine (sOnly n ls x _ _ _ _ HLq.out.tri (by rw [← HSUB.out]; exact cutI HLq.out.ints t (E + 1) (by have := HE.out; omega) (by have := HE.out; have := HM.out; omega)) HPQ.out).mono ?_; rw [HON.out]; rintro e w4 ⟨rfl, hb⟩; replace HLq := Lib.hid (HLq.out.below hb); replace HRq := Lib.hid ((OwnR.of HRq.out).below hb (Nat.le_refl _)).1; replace HBI := Lib.hid (HBI.out.trans (hb.mono HBI.out.size)); clear hb b0 b1 f0 f1 hb0; obtain ⟨b0, b1, f0, f1, hb0⟩ := box2 HLq.out.box)
              refine hK.out _ _ (by ((try dsimp only); (first | go_keep | exact ⟨b0, b1⟩))) (fun hHeld => ?_)
              clear hK K
              try simp only [List.getElem_toArray, List.getElem_cons_zero, List.getElem_cons_succ, Act.put, List.setIfInBounds_toArray, List.set_cons_zero, List.set_cons_succ]
              refine wpAnyH_done (by kernel_rfl) ?_ _
              refine NoPanic.normal ?_
              have d0 := HLq.out.ints.get HZZ.out
              have hsz3 := HLq.out.bw.size
              have hbz3 := HLq.out.box.lt
              have hOl : O.length ≤ 9 := by omega
              go_wp2_with (at_builtin; refine wpList_append_rd rfl _ _ _ rfl (w.heap.size + 1) 56 i0 _ 2 16 Try.underlying29 HI.out HZ0.out HZ1.out HZ2.out rfl (by omega) (.slice sa O.length sc) O.length (cells2 O) rfl (HRq.out.alloc _) (some ⟨w4.heap.size, 0, none⟩) 1 1 [.int .i64 1, .int .i64 z] rfl (srcAt_one (n := 1) (o := 2) (box_new w4 #[.int .i64 1, .int .i64 z] _) rfl) (by simp [Value.oneCell']) (by unfold maxLen; omega) (by omega) (by simp; omega) ?_; intro v' w5 hown3 hgrow hloc)
              have HL5 := Lib.hid ((HLq.out.alloc (.cells #[.int .i64 1, .int .i64 z] 56)).grow HV.out HU.out hgrow (fun j hj => (HRq.out.lt j hj).1) (Nat.le_refl _))
              obtain ⟨na, nc, rfl⟩ := own_slice hown3
              have HOWN := Lib.hid hown3
              clear hown3 hgrow hloc d0
              go_wp2_with fail
              go_roundw
              case rel =>
                have hE := HE.out
                have hb : bestK (segB n ls L t) (L.length - 1 - t) = e := by rw [HBE.out, if_pos HS.out]
                refine ⟨E, O ++ [(1, z)], by omega, rfl, by simp; omega, Lib.hid ?_, ?_, HL5.out⟩
                · rw [← HT.out, compT_yes he (by rw [← hE]; exact HZZ.out) hb, ← hE, List.append_assoc]; rfl
                · have e2 : cells2 (O ++ [(1, z)]) = cells2 O ++ [.int .i64 1, .int .i64 z] := by simp [cells2]
                  rw [e2, List.length_append]; exact HOWN.out
              case measure => have hE := HE.out; simp [intOf]; omega
            | false =>
              refine wp_region_noPanic ?_
              refine wp_region_held_drew (S := (fun w' => w'.cell? ⟨w.heap.size, 0, none⟩ = some (.int .i64 n) ∧ w'.cell? ⟨w.heap.size, 1, none⟩ = some (.slice va vm vc))) (by kernel_rfl) (by ((try dsimp only); (first | go_keep | exact ⟨b0, b1⟩))) (fun hHeld => ?_)
              refine wpAnyH_take (i := 0) (oi := _) (v := ?_) rfl (by kernel_rfl) (by kernel_rfl) (by kernel_rfl) (fun _ _ _ h => h) (Or.inl ⟨by rfl, ?_⟩) (by assumption) ?_
              rotate_left
              focus (intro w hSw; (try dsimp only at hSw); go_simp; try (with_reducible rfl))
              try simp only [List.getElem_toArray, List.getElem_cons_zero, List.getElem_cons_succ, Act.put, List.setIfInBounds_toArray, List.set_cons_zero, List.set_cons_succ]
              refine wpAnyH_take (i := 1) (oi := _) (v := ?_) rfl (by kernel_rfl) (by kernel_rfl) (by kernel_rfl) (fun _ _ _ h => h) (Or.inl ⟨by rfl, ?_⟩) (by assumption) ?_
              rotate_left
              focus (intro w hSw; (try dsimp only at hSw); go_simp; try (with_reducible rfl))
              try simp only [List.getElem_toArray, List.getElem_cons_zero, List.getElem_cons_succ, Act.put, List.setIfInBounds_toArray, List.set_cons_zero, List.set_cons_succ]
              refine wpAnyH_take (i := 2) (oi := _) (v := ?_) rfl (by kernel_rfl) (by kernel_rfl) (by kernel_rfl) (fun _ _ _ h => h) (Or.inl ⟨by rfl, ?_⟩) (by assumption) ?_
              rotate_left
              focus (intro w hSw; (try dsimp only at hSw); go_simp; try (with_reducible rfl))
              try simp only [List.getElem_toArray, List.getElem_cons_zero, List.getElem_cons_succ, Act.put, List.setIfInBounds_toArray, List.set_cons_zero, List.set_cons_succ]
              refine wpAnyH_take (i := 3) (oi := _) (v := ?_) rfl (by kernel_rfl) (by kernel_rfl) (by kernel_rfl) (fun _ _ _ h => h) (Or.inl ⟨by rfl, ?_⟩) (by assumption) ?_
              rotate_left
              focus (intro w hSw; (try dsimp only at hSw); go_simp; try (with_reducible rfl))
              try simp only [List.getElem_toArray, List.getElem_cons_zero, List.getElem_cons_succ, Act.put, List.setIfInBounds_toArray, List.set_cons_zero, List.set_cons_succ]
              refine wpAnyH_take (i := 4) (oi := _) (v := ?_) rfl (by kernel_rfl) (by kernel_rfl) (by kernel_rfl) (fun _ _ _ h => h) (Or.inl ⟨by rfl, ?_⟩) (by assumption) ?_
              rotate_left
              focus (intro w hSw; (try dsimp only at hSw); go_simp; try (with_reducible rfl))
              try simp only [List.getElem_toArray, List.getElem_cons_zero, List.getElem_cons_succ, Act.put, List.setIfInBounds_toArray, List.set_cons_zero, List.set_cons_succ]
              refine wpAnyH_ready (rs := [5]) (by kernel_rfl) (by simp) ?_
              refine AllReadyH.cons (o := _) rfl (fun K hK => ?_) AllReadyH.nil
              go_simp
              refine hK.out _ _ (by ((try dsimp only); (first | go_keep | exact ⟨b0, b1⟩))) (fun hHeld => ?_)
              clear hK K
              try simp only [List.getElem_toArray, List.getElem_cons_zero, List.getElem_cons_succ, Act.put, List.setIfInBounds_toArray, List.set_cons_zero, List.set_cons_succ]
              refine wpAnyH_ready (rs := [6]) (by kernel_rfl) (by simp) ?_
              refine AllReadyH.cons (o := _) rfl (fun K hK => ?_) AllReadyH.nil
              go_simp
              (go_at_call 42; refine (sOnly n ls x _ _ _ _ HLq.out.tri (by rw [← HSUB.out]; exact cutI HLq.out.ints t (E + 1) (by have := HE.out; omega) (by have := HE.out; have := HM.out; omega)) HPQ.out).mono ?_; rw [HON.out]; rintro e w4 ⟨rfl, hb⟩; replace HLq := Lib.hid (HLq.out.below hb); replace HRq := Lib.hid ((OwnR.of HRq.out).below hb (Nat.le_refl _)).1; replace HBI := Lib.hid (HBI.out.trans (hb.mono HBI.out.size)); clear hb b0 b1 f0 f1 hb0; obtain ⟨b0, b1, f0, f1, hb0⟩ := box2 HLq.out.box)
              refine hK.out _ _ (by ((try dsimp only); (first | go_keep | exact ⟨b0, b1⟩))) (fun hHeld => ?_)
              clear hK K
              try simp only [List.getElem_toArray, List.getElem_cons_zero, List.getElem_cons_succ, Act.put, List.setIfInBounds_toArray, List.set_cons_zero, List.set_cons_succ]
              refine wpAnyH_done (by kernel_rfl) ?_ _
              refine NoPanic.normal ?_
              have d0 := HLq.out.ints.get HX.out
              have d1 := HLq.out.ints.get HY.out
              have hw9 : IntKind.i64.wrap ((t:Int) + 1) = (t:Int) + 1 := IntWalk.i64_in _ (by omega)
              have hJ2 : (t:Int) < (m:Int) := by omega
              have hJ4 : (t:Int) + 1 < (m:Int) := by omega
              have hJ5 : (0:Int) ≤ (t:Int) + 1 := by omega
              have hJ6 : ((t:Int) + 1).toNat = t + 1 := by omega
              obtain ⟨kk, hkk⟩ : ∃ kk, lkOf ls x y = kk := ⟨_, rfl⟩
              have HKK := Lib.hid hkk
              clear hkk
              go_wp2_with fail
              replace HLq := Lib.hid HLq.out.drew
              replace HRq := Lib.hid (own_drew HRq.out)
              replace HBI := Lib.hid HBI.out.drew
              clear b0 b1 f0 f1 hb0
              obtain ⟨b0, b1, f0, f1, hb0⟩ := box2 HLq.out.box
              refine wp_region_noPanic ?_
              refine wp_region_held_drew (S := (fun w' => w'.cell? ⟨w.heap.size, 0, none⟩ = some (.int .i64 n) ∧ w'.cell? ⟨w.heap.size, 1, none⟩ = some (.slice va vm vc) ∧ w'.cell? ⟨b, off + t, none⟩ = some (.int .i64 x) ∧ w'.cell? ⟨b, off + (t + 1), none⟩ = some (.int .i64 y))) (by kernel_rfl) (by ((try dsimp only); (first | go_keep | exact ⟨b0, b1, d0, d1⟩))) (fun hHeld => ?_)
              refine wpAnyH_take (i := 0) (oi := _) (v := ?_) rfl (by kernel_rfl) (by kernel_rfl) (by kernel_rfl) (fun _ _ _ h => h) (Or.inl ⟨by rfl, ?_⟩) (by assumption) ?_
              rotate_left
              focus (intro w hSw; (try dsimp only at hSw); go_simp; try (with_reducible rfl))
              try simp only [List.getElem_toArray, List.getElem_cons_zero, List.getElem_cons_succ, Act.put, List.setIfInBounds_toArray, List.set_cons_zero, List.set_cons_succ]
              refine wpAnyH_take (i := 1) (oi := _) (v := ?_) rfl (by kernel_rfl) (by kernel_rfl) (by kernel_rfl) (fun _ _ _ h => h) (Or.inl ⟨by rfl, ?_⟩) (by assumption) ?_
              rotate_left
              focus (intro w hSw; (try dsimp only at hSw); go_simp; try (with_reducible rfl))
              try simp only [List.getElem_toArray, List.getElem_cons_zero, List.getElem_cons_succ, Act.put, List.setIfInBounds_toArray, List.set_cons_zero, List.set_cons_succ]
              refine wpAnyH_take (i := 2) (oi := _) (v := ?_) rfl (by kernel_rfl) (by kernel_rfl) (by kernel_rfl) (fun _ _ _ h => h) (Or.inl ⟨by rfl, ?_⟩) (by assumption) ?_
              rotate_left
              focus (intro w hSw; (try dsimp only at hSw); go_simp; try (with_reducible rfl))
              try simp only [List.getElem_toArray, List.getElem_cons_zero, List.getElem_cons_succ, Act.put, List.setIfInBounds_toArray, List.set_cons_zero, List.set_cons_succ]
              refine wpAnyH_take (i := 3) (oi := _) (v := ?_) rfl (by kernel_rfl) (by kernel_rfl) (by kernel_rfl) (fun _ _ _ h => h) (Or.inl ⟨by rfl, ?_⟩) (by assumption) ?_
              rotate_left
              focus (intro w hSw; (try dsimp only at hSw); go_simp; try (with_reducible rfl))
              try simp only [List.getElem_toArray, List.getElem_cons_zero, List.getElem_cons_succ, Act.put, List.setIfInBounds_toArray, List.set_cons_zero, List.set_cons_succ]
              refine wpAnyH_take (i := 4) (oi := _) (v := ?_) rfl (by kernel_rfl) (by kernel_rfl) (by kernel_rfl) (fun _ _ _ h => h) (Or.inl ⟨by rfl, ?_⟩) (by assumption) ?_
              rotate_left
              focus (intro w hSw; (try dsimp only at hSw); go_simp; try (with_reducible rfl))
              try simp only [List.getElem_toArray, List.getElem_cons_zero, List.getElem_cons_succ, Act.put, List.setIfInBounds_toArray, List.set_cons_zero, List.set_cons_succ]
              refine wpAnyH_take (i := 5) (oi := _) (v := ?_) rfl (by kernel_rfl) (by kernel_rfl) (by kernel_rfl) (fun _ _ _ h => h) (Or.inl ⟨by rfl, ?_⟩) (by assumption) ?_
              rotate_left
              focus (intro w hSw; (try dsimp only at hSw); go_simp; try (with_reducible rfl))
              try simp only [List.getElem_toArray, List.getElem_cons_zero, List.getElem_cons_succ, Act.put, List.setIfInBounds_toArray, List.set_cons_zero, List.set_cons_succ]
              refine wpAnyH_take (i := 6) (oi := _) (v := ?_) rfl (by kernel_rfl) (by kernel_rfl) (by kernel_rfl) (fun _ _ _ h => h) (Or.inl ⟨by rfl, ?_⟩) (by assumption) ?_
              rotate_left
              focus (intro w hSw; (try dsimp only at hSw); go_simp; try (with_reducible rfl))
              try simp only [List.getElem_toArray, List.getElem_cons_zero, List.getElem_cons_succ, Act.put, List.setIfInBounds_toArray, List.set_cons_zero, List.set_cons_succ]
              refine wpAnyH_take (i := 7) (oi := _) (v := ?_) rfl (by kernel_rfl) (by kernel_rfl) (by kernel_rfl) (fun _ _ _ h => h) (Or.inl ⟨by rfl, ?_⟩) (by assumption) ?_
              rotate_left
              focus (intro w hSw; (try dsimp only at hSw); go_simp; try (with_reducible rfl))
              try simp only [List.getElem_toArray, List.getElem_cons_zero, List.getElem_cons_succ, Act.put, List.setIfInBounds_toArray, List.set_cons_zero, List.set_cons_succ]
              refine wpAnyH_take (i := 8) (oi := _) (v := ?_) rfl (by kernel_rfl) (by kernel_rfl) (by kernel_rfl) (fun _ _ _ h => h) (Or.inl ⟨by rfl, ?_⟩) (by assumption) ?_
              rotate_left
              focus (intro w hSw; (try dsimp only at hSw); go_simp; try (with_reducible rfl))
              try simp only [List.getElem_toArray, List.getElem_cons_zero, List.getElem_cons_succ, Act.put, List.setIfInBounds_toArray, List.set_cons_zero, List.set_cons_succ]
              refine wpAnyH_take (i := 9) (oi := _) (v := ?_) rfl (by kernel_rfl) (by kernel_rfl) (by kernel_rfl) (fun _ _ _ h => h) (Or.inl ⟨by rfl, ?_⟩) (by assumption) ?_
              rotate_left
              focus (intro w hSw; (try dsimp only at hSw); go_simp; try (with_reducible rfl))
              try simp only [List.getElem_toArray, List.getElem_cons_zero, List.getElem_cons_succ, Act.put, List.setIfInBounds_toArray, List.set_cons_zero, List.set_cons_succ]
              refine wpAnyH_ready (rs := [10]) (by kernel_rfl) (by simp) ?_
              refine AllReadyH.cons (o := _) rfl (fun K hK => ?_) AllReadyH.nil
              go_simp
              (go_at_call 43; refine (sLinkOf n ls x y _ _ HLq.out.tri).mono ?_; rw [HKK.out]; rintro e w5 ⟨rfl, hb⟩; replace HLq := Lib.hid (HLq.out.below hb); replace HRq := Lib.hid ((OwnR.of HRq.out).below hb (Nat.le_refl _)).1; replace d0 := cell_below hb d0 (cell_lt d0); replace d1 := cell_below hb d1 (cell_lt d1); clear hb b0 b1 f0 f1 hb0; obtain ⟨b0, b1, f0, f1, hb0⟩ := box2 HLq.out.box)
              refine hK.out _ _ (by ((try dsimp only); (first | go_keep | exact ⟨b0, b1, d0, d1⟩))) (fun hHeld => ?_)
              clear hK K
              try simp only [List.getElem_toArray, List.getElem_cons_zero, List.getElem_cons_succ, Act.put, List.setIfInBounds_toArray, List.set_cons_zero, List.set_cons_succ]
              refine wpAnyH_take (i := 11) (oi := _) (v := ?_) rfl (by kernel_rfl) (by kernel_rfl) (by kernel_rfl) (fun _ _ _ h => h) (Or.inl ⟨by rfl, ?_⟩) (by assumption) ?_
              rotate_left
              focus (intro w hSw; (try dsimp only at hSw); go_simp; try (with_reducible rfl))
              try simp only [List.getElem_toArray, List.getElem_cons_zero, List.getElem_cons_succ, Act.put, List.setIfInBounds_toArray, List.set_cons_zero, List.set_cons_succ]
              refine wpAnyH_ready (rs := [12]) (by kernel_rfl) (by simp) ?_
              refine AllReadyH.cons (o := _) rfl (fun K hK => ?_) AllReadyH.nil
              go_simp
              (have SB := Lib.hid (box_new w5 #[.int .i64 2, .int .i64 kk] 56); have hb : Below w5.heap.size w5 (w5.alloc (.cells #[.int .i64 2, .int .i64 kk] 56)) := ((Below.refl _ _).alloc (Nat.le_refl _) _); have hws := HLq.out.box.lt; replace HLq := Lib.hid (HLq.out.below hb); replace HRq := Lib.hid (HRq.out.alloc (.cells #[.int .i64 2, .int .i64 kk] 56)); replace d0 := cell_below hb d0 (cell_lt d0); replace d1 := cell_below hb d1 (cell_lt d1); clear hb b0 b1 f0 f1 hb0; obtain ⟨b0, b1, f0, f1, hb0⟩ := box2 HLq.out.box)
              refine hK.out _ _ (by ((try dsimp only); (first | go_keep | exact ⟨b0, b1, d0, d1⟩))) (fun hHeld => ?_)
              clear hK K
              try simp only [List.getElem_toArray, List.getElem_cons_zero, List.getElem_cons_succ, Act.put, List.setIfInBounds_toArray, List.set_cons_zero, List.set_cons_succ]
              refine wpAnyH_ready (rs := [13]) (by kernel_rfl) (by simp) ?_
              refine AllReadyH.cons (o := _) rfl (fun K hK => ?_) AllReadyH.nil
              (refine step_append_rd (by rfl) _ _ _ (by rfl) (w.heap.size + 1) 56 i0 _ 2 16 Try.underlying29 HI.out HZ0.out HZ1.out HZ2.out rfl (by omega) (.slice sa O.length sc) O.length (cells2 O) (by rfl) HRq.out (some ⟨w5.heap.size, 0, none⟩) 1 1 [.int .i64 2, .int .i64 kk] (by rfl) (srcAt_one (n := 1) (o := 2) SB.out rfl) (by simp [Value.oneCell']) (by unfold maxLen; omega) (by omega) (by simp; omega) ?_; intro v' w7 hown3 hgrow hloc; have HL7 := Lib.hid (HLq.out.grow HV.out HU.out hgrow (fun j hj => (HRq.out.lt j hj).1) (Nat.le_refl _)); clear b0 b1 f0 f1 hb0; obtain ⟨b0, b1, f0, f1, hb0⟩ := box2 HL7.out.box; have HIT := HL7.out.ints; clear d0 d1; have d0 := HIT.get HX.out; have d1 := HIT.get HY.out)
              refine hK.out _ _ (by ((try dsimp only); (first | go_keep | exact ⟨b0, b1, d0, d1⟩))) (fun hHeld => ?_)
              clear hK K
              try simp only [List.getElem_toArray, List.getElem_cons_zero, List.getElem_cons_succ, Act.put, List.setIfInBounds_toArray, List.set_cons_zero, List.set_cons_succ]
              refine wpAnyH_take (i := 14) (oi := _) (v := ?_) rfl (by kernel_rfl) (by kernel_rfl) (by kernel_rfl) (fun _ _ _ h => h) (Or.inl ⟨by rfl, ?_⟩) (by assumption) ?_
              rotate_left
              focus (intro w hSw; (try dsimp only at hSw); go_simp; try (with_reducible rfl))
              try simp only [List.getElem_toArray, List.getElem_cons_zero, List.getElem_cons_succ, Act.put, List.setIfInBounds_toArray, List.set_cons_zero, List.set_cons_succ]
              refine wpAnyH_done (by kernel_rfl) ?_ _
              refine NoPanic.normal ?_
              obtain ⟨na, nc, rfl⟩ := own_slice hown3
              have HOWN := Lib.hid hown3
              clear hown3 hgrow hloc
              go_wp2_with fail
              go_roundw
              case rel =>
                have hb : bestK (segB n ls L t) (L.length - 1 - t) = 0 := by rw [HBE.out, if_neg (by simp [HS.out])]
                refine ⟨t + 1, O ++ [(2, kk)], by omega, by go_num, by simp; omega, Lib.hid ?_, ?_, HL7.out⟩
                · rw [← HT.out, compT_no HX.out HY.out hb, HKK.out, List.append_assoc]; rfl
                · have e2 : cells2 (O ++ [(2, kk)]) = cells2 O ++ [.int .i64 2, .int .i64 kk] := by simp [cells2]
                  rw [e2, List.length_append]; exact HOWN.out
              case measure => simp [intOf]; omega
      · obtain rfl : t + 1 = m := by omega
        have e0 : decide ((t:Int) + 1 < (((t + 1 : Nat) : Int))) = false := decide_eq_false (by omega)
        go_wp2_with fail
        go_ret2
        refine ⟨(fun h => by rw [HQ.out] at h; cases h), fun _ => ⟨_, rfl, ?_⟩, HLr.out.bw⟩
        have h1 := HT.out
        rw [compT_end (by rw [← HM.out]; exact Nat.le_refl _), List.append_nil] at h1
        rw [← h1]
        exact (OwnR.of HR.out).mono (by omega) (Nat.le_refl _)
end Go.Proofs.Ytoebefpmfgkpoaa
