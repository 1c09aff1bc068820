/- A compiled stack: StackCompile of the program and of the reference. -/
import Derived.Test.YtoebefpmfgkpoaaOnly
import Derived.Test.YtoebefpmfgkpoaaLwP
import Derived.Test.YtoebefpmfgkpoaaCut
namespace Go.Proofs.Ytoebefpmfgkpoaa
set_option linter.unusedSimpArgs false
set_option linter.unusedVariables false
open Go.RowKit

structure CompPost (w : World) (n : Int) (ls : List LinkD) (L : List Int) (e : Ending) (w' : World) : Prop where
  no : pathOk n ls L = false → ∃ A, e = .returned (.tuple #[.slice A 0 0, .bool false]) ∧ OwnR w' w.heap.size w'.heap.size 56 2 (.slice A 0 0) 0 []
  yes : pathOk n ls L = true → ∃ v, e = .returned (.tuple #[v, .bool true]) ∧ OwnR w' w.heap.size w'.heap.size 56 2 v (compT n ls L 0).length (cells2 (compT n ls L 0))
  below : Below w.heap.size w w'
theorem infoIntC : (Try.prog.info? 3).map (fun i => (i.zero, i.size, i.bytes)) = some (some (.int .i64 0), 1, 8) := by kernel_rfl
theorem segB_all {n : Int} {ls : List LinkD} {L : List Int} {t : Nat} {x : Int} (h : pathOk n ls L = true) (hx : L[t]? = some x) : ∀ j, 1 ≤ j → segB n ls L t (j + 1) = true → segB n ls L t j = true := fun j h1 h3 => by
  rcases Nat.lt_or_ge j (L.length - 1 - t) with h2 | h2
  · exact segB_less h hx j h1 (by omega) h3
  · rw [segB_at hx] at h3 ⊢
    have hl : (L.drop (t + 1)).length = L.length - 1 - t := by rw [List.length_drop]; omega
    rwa [List.take_of_length_le (by omega), ← List.take_of_length_le (l := L.drop (t + 1)) (i := j) (by omega)] at h3
theorem bestK_hit {f : Nat → Bool} {e : Nat} (h : 1 ≤ e) (hf : f e = true) : bestK f e = e := by
  obtain ⟨k, rfl⟩ : ∃ k, e = k + 1 := ⟨e - 1, by omega⟩
  unfold bestK
  rw [if_pos hf]
theorem bestK_miss {f : Nat → Bool} {e : Nat} (h : 1 ≤ e) (hf : f e = false) : bestK f e = bestK f (e - 1) := by
  obtain ⟨k, rfl⟩ : ∃ k, e = k + 1 := ⟨e - 1, by omega⟩
  rw [bestK, if_neg (by simp [hf])]
  rfl
set_option maxRecDepth 100000 in
set_option maxHeartbeats 8000000 in
theorem iCompile (n : Int) (ls : List LinkD) (L : List Int) (v u : Value) (w : World) (hv : TriplesAt w v ls) (hu : IntsAt w u L) :
    Calls Try.prog 12 #[.agg #[.int .i64 n, v], u] w (CompPost w n ls L) := by
  have HV := Lib.hid hv; have HU := Lib.hid hu
  obtain ⟨va, vm, vc, rfl⟩ := hv.form
  obtain ⟨a, cap, rfl, hcap, hmax⟩ := hu.form2
  obtain ⟨m, hm⟩ : ∃ m, m = L.length := ⟨_, rfl⟩
  rw [← hm] at hcap HU ⊢
  have HM := Lib.hid hm
  unfold maxLen at hmax
  obtain ⟨i0, hi, hz0, hz1, hz2⟩ := info_parts infoLab
  obtain ⟨i1, hi1, hq1, hy1, hq2⟩ := info_parts infoIntC
  have HI := Lib.hid hi; have HZ0 := Lib.hid hz0; have HZ1 := Lib.hid hz1; have HZ2 := Lib.hid hz2; have HI1 := Lib.hid hi1; have HY1 := Lib.hid hy1
  clear hi hz0 hz1 hz2 hi1 hy1 hq1 hq2 hv hm
  go_enter Try.func12, Try.ntmps12
  go_wp2_with fail
  refine (iPathValid n ls L _ _ _ (HV.out.below (by with_reducible (repeat (first | (refine below_drewN ?_ _) | (refine Below.drew ?_) | (refine below_alloc ?_ (by first | omega | (simp; done) | (simp; omega)) _) | (refine Below.setCell ?_ (by first | omega | (simp; done) | (simp; omega)) _) | exact Below.refl _ _ | assumption | (refine below_call ?_ (by first | omega | (simp; done) | (simp; omega)) (by assumption))))) (Nat.le_refl _)) (HU.out.below (by with_reducible (repeat (first | (refine below_drewN ?_ _) | (refine Below.drew ?_) | (refine below_alloc ?_ (by first | omega | (simp; done) | (simp; omega)) _) | (refine Below.setCell ?_ (by first | omega | (simp; done) | (simp; omega)) _) | exact Below.refl _ _ | assumption | (refine below_call ?_ (by first | omega | (simp; done) | (simp; omega)) (by assumption))))) (Nat.le_refl _))).mono ?_
  rintro e w1 ⟨rfl, hb⟩
  have G := Lib.hid (Box.call (b := w.heap.size) (c := #[.int .i64 n, .slice va vm vc]) (t := 25) hb (by with_reducible (repeat (first | (refine box_at _ _ _ ?_; first | rfl | (simp; done)) | apply Box.alloc | apply Box.drewN | apply Box.drew))))
  obtain ⟨G_0, G_1, G_2, G_3, G_4⟩ := box2 G.out
  have BW := Lib.hid (below_call (B := w.heap.size) (a := w) (by with_reducible (repeat (first | (refine below_drewN ?_ _) | (refine Below.drew ?_) | (refine below_alloc ?_ (by first | omega | (simp; done) | (simp; omega)) _) | (refine Below.setCell ?_ (by first | omega | (simp; done) | (simp; omega)) _) | exact Below.refl _ _ | assumption | (refine below_call ?_ (by first | omega | (simp; done) | (simp; omega)) (by assumption))))) (Nat.le_refl _) hb)
  clear hb
  obtain ⟨q, hq⟩ : ∃ q, pathOk n ls L = q := ⟨_, rfl⟩
  have HQ := Lib.hid hq
  rw [hq]
  clear hq
  cases q with
  | false =>
    go_wp2_with fail
    go_ret2
    exact ⟨fun _ => ⟨none, rfl, OwnR.of ⟨rfl, .inl ⟨rfl, rfl⟩⟩⟩, (fun h => by rw [HQ.out] at h; cases h), BW.out⟩
  | true =>
    have hlen : 1 ≤ m ∧ m ≤ 9 := by
      obtain ⟨a', p, e, _, h8, _⟩ := pathOk_iff HQ.out
      rw [HM.out, e, List.length_cons]; omega
    obtain ⟨hm1, hm9⟩ := hlen
    obtain ⟨x0, hx0⟩ := at_lt HM.out (show 0 < m by omega)
    have HGK := Lib.hid (path_from HQ.out hx0).1
    obtain ⟨b, off, rfl, hbl⟩ := hu.some (by have := HM.out; omega)
    have HLP : Hid (LwP w w.heap.size n (.slice va vm vc) ls (.slice (some ⟨b, off, none⟩) m cap) L w1) := Lib.hid ⟨BW.out, G.out, HV.out.below BW.out (Nat.le_refl _), HU.out.below BW.out (Nat.le_refl _)⟩
    have ws : IntKind.i64.wrap ((m:Int) - 1) = (m:Int) - 1 := IntWalk.i64_in _ (by omega)
    clear hu hx0 G_0 G_1 G_2 G_3 G_4
    have HR0 : Hid ((w1.alloc (.cells #[] 56)).ownsRow w1.heap.size 56 2 (.slice (some ⟨w1.heap.size, 0, none⟩) 0 0) 0 (cells2 [])) := Lib.hid (own_new rfl (Nat.le_refl _))
    have HB0 : Hid (Below w1.heap.size w1 (w1.alloc (.cells #[] 56))) := Lib.hid ((Below.refl _ _).alloc (Nat.le_refl _) _)
    go_wp2_with fail
    go_loopw [6, 8] (fun sv i wr => ∃ (t : Nat) (O : List LabelD), t + 1 ≤ m ∧ i = .int .i64 t ∧ O.length ≤ t ∧ Hid (O ++ compT n ls L t = compT n ls L 0) ∧ wr.ownsRow w1.heap.size 56 2 sv O.length (cells2 O) ∧ Below w1.heap.size w1 wr) (fun _ i _ => m - (intOf i).toNat)
    case atStart => exact ⟨0, [], by omega, rfl, Nat.le_refl _, Lib.hid rfl, HR0.out, HB0.out⟩
    case round =>
      obtain ⟨t, O, ht, rfl, hO, HT, hR, hB⟩ := hrel
      clear HR0 HB0
      obtain ⟨w2, hw2⟩ : ∃ X, X = wr := ⟨_, rfl⟩
      subst hw2
      have HB := Lib.hid hB
      have HR := Lib.hid hR
      have HLr := Lib.hid (HLP.out.below hB)
      obtain ⟨sa, sc, rfl⟩ := own_slice hR
      clear hB hR
      by_cases htm : t + 1 < m
      · have e0 : decide ((t:Int) < (m:Int) - 1) = true := decide_eq_true (by omega)
        obtain ⟨x, hx⟩ := at_lt HM.out (show t < m by omega)
        obtain ⟨y, hy⟩ := at_lt HM.out (show t + 1 < m by omega)
        have HX := Lib.hid hx; have HY := Lib.hid hy
        have hI1 : (t:Int) < (m:Int) - 1 := by omega
        clear hx hy
        go_wp2_with fail
        go_loopw [9] (fun ev wq => ∃ e : Nat, t + e < m ∧ ev = .int .i64 ((t + e : Nat) : Int) ∧ Hid (bestK (segB n ls L t) (L.length - 1 - t) = bestK (segB n ls L t) e) ∧ Below w2.heap.size w2 wq) (fun ev _ => (intOf ev).toNat)
        case atStart => exact ⟨m - 1 - t, by omega, by congr 1; omega, Lib.hid (by rw [← HM.out]), Below.refl _ _⟩
        case round =>
          obtain ⟨e, hte, rfl, HBE, hB⟩ := hrel
          have HLq := Lib.hid (HLr.out.below hB)
          have HRq := Lib.hid ((OwnR.of HR.out).below hB (Nat.le_refl _)).1
          have HBq := Lib.hid (HB.out.trans (hB.mono HB.out.size))
          have hsz := HBq.out.size
          have HBI := Lib.hid hB
          clear hB
          by_cases he : 1 ≤ e
          · have e1 : decide ((t:Int) < ((t + e : Nat) : Int)) = true := decide_eq_true (by omega)
            obtain ⟨E, hE⟩ : ∃ E : Nat, E = t + e := ⟨_, rfl⟩
            rw [← hE] at e1 ⊢
            have HE := Lib.hid hE
            clear hE
            obtain ⟨z, hz⟩ := at_lt HM.out (show E < m by have := HE.out; omega)
            have HZZ := Lib.hid hz
            have d0 := HLq.out.ints.get hz
            have hsub : (L.drop t).take (E + 1 - t) = x :: (L.drop (t + 1)).take e := by have := HE.out; rw [show E + 1 - t = e + 1 by omega]; exact cut_at HX.out
            have HIQ : Hid (IntsAt wr (.slice (cutA (some ⟨b, off, none⟩) cap t 1) (E + 1 - t) (cap - t)) (x :: (L.drop (t + 1)).take e)) := Lib.hid (by rw [← hsub]; exact cutI HLq.out.ints t (E + 1) (by have := HE.out; omega) (by have := HE.out; have := HM.out; omega))
            have HPQ := Lib.hid (path_sub HQ.out HX.out e)
            have HSG := Lib.hid (segB_at (n := n) (ls := ls) (e := e) HX.out)
            have hs1 : ∀ W : World, (Instr.slice 26 (.slice (some ⟨b, off, none⟩) m cap) (some (.int .i64 (t : Int))) (some (.int .i64 ((E:Int) + 1))) none).run Try.prog W = .ok (.slice (cutA (some ⟨b, off, none⟩) cap t 1) (E + 1 - t) (cap - t)) W := fun W => by have h := run_mid (P := Try.prog) (A := some ⟨b, off, none⟩) (n := m) (c := cap) (l := (t:Int)) (k := (E:Int) + 1) Try.underlying26 HI1.out t (E + 1) rfl (by omega) (by have := HE.out; omega) (by have := HE.out; omega) W; rw [HY1.out] at h; exact h
            have hw1 : IntKind.i64.wrap ((E:Int) + 1) = (E:Int) + 1 := IntWalk.i64_in _ (by have := HE.out; omega)
            have hw2 : IntKind.i64.wrap ((E:Int) - 1) = (E:Int) - 1 := IntWalk.i64_in _ (by have := HE.out; omega)
            have hI2 : (t:Int) < (E:Int) := by have := HE.out; omega
            have hI3 : (0:Int) ≤ (t:Int) := by omega
            have hI4 : (E:Int) < (m:Int) := by have := HE.out; omega
            have hI5 : (0:Int) ≤ (E:Int) := by omega
            obtain ⟨S, hS⟩ : ∃ S, segB n ls L t e = S := ⟨_, rfl⟩
            have HS := Lib.hid hS
            rw [HSG.out] at hS
            have HON := Lib.hid hS
            clear hz hsub hS
            obtain ⟨b0, b1, f0, f1, hb0⟩ := box2 HLq.out.box
            have HIQ2 := Lib.hid (HIQ.out.below (Below.refl _ _).drew (Nat.le_refl _))
            replace HLq := Lib.hid HLq.out.drew
            replace HRq := Lib.hid (own_drew HRq.out)
            replace HBq := Lib.hid HBq.out.drew
            replace HBI := Lib.hid HBI.out.drew
            cases S with
            | true =>
              go_wp2_with fail
              refine wp_region_noPanic ?_
              refine wp_region_held_drew (S := (fun w' => w'.cell? ⟨w.heap.size, 0, none⟩ = some (.int .i64 n) ∧ w'.cell? ⟨w.heap.size, 1, none⟩ = some (.slice va vm vc))) (by kernel_rfl) (by ((try dsimp only); (first | go_keep | exact ⟨b0, b1⟩))) (fun hHeld => ?_)
              refine wpAnyH_take (i := 0) (oi := _) (v := ?_) rfl (by kernel_rfl) (by kernel_rfl) (by kernel_rfl) (fun _ _ _ h => h) (Or.inl ⟨by rfl, ?_⟩) (by assumption) ?_
              rotate_left
              focus (intro w hSw; (try dsimp only at hSw); go_simp; try (with_reducible rfl))
              try simp only [List.getElem_toArray, List.getElem_cons_zero, List.getElem_cons_succ, Act.put, List.setIfInBounds_toArray, List.set_cons_zero, List.set_cons_succ]
              refine wpAnyH_take (i := 1) (oi := _) (v := ?_) rfl (by kernel_rfl) (by kernel_rfl) (by kernel_rfl) (fun _ _ _ h => h) (Or.inl ⟨by rfl, ?_⟩) (by assumption) ?_
              rotate_left
              focus (intro w hSw; (try dsimp only at hSw); go_simp; try (with_reducible rfl))
              try simp only [List.getElem_toArray, List.getElem_cons_zero, List.getElem_cons_succ, Act.put, List.setIfInBounds_toArray, List.set_cons_zero, List.set_cons_succ]
              refine wpAnyH_take (i := 2) (oi := _) (v := ?_) rfl (by kernel_rfl) (by kernel_rfl) (by kernel_rfl) (fun _ _ _ h => h) (Or.inl ⟨by rfl, ?_⟩) (by assumption) ?_
              rotate_left
              focus (intro w hSw; (try dsimp only at hSw); go_simp; try (with_reducible rfl))
              try simp only [List.getElem_toArray, List.getElem_cons_zero, List.getElem_cons_succ, Act.put, List.setIfInBounds_toArray, List.set_cons_zero, List.set_cons_succ]
              refine wpAnyH_take (i := 3) (oi := _) (v := ?_) rfl (by kernel_rfl) (by kernel_rfl) (by kernel_rfl) (fun _ _ _ h => h) (Or.inl ⟨by rfl, ?_⟩) (by assumption) ?_
              rotate_left
              focus (intro w hSw; (try dsimp only at hSw); go_simp; try (with_reducible rfl))
              try simp only [List.getElem_toArray, List.getElem_cons_zero, List.getElem_cons_succ, Act.put, List.setIfInBounds_toArray, List.set_cons_zero, List.set_cons_succ]
              refine wpAnyH_take (i := 4) (oi := _) (v := ?_) rfl (by kernel_rfl) (by kernel_rfl) (by kernel_rfl) (fun _ _ _ h => h) (Or.inl ⟨by rfl, ?_⟩) (by assumption) ?_
              rotate_left
              focus (intro w hSw; (try dsimp only at hSw); go_simp; try (with_reducible rfl))
              try simp only [List.getElem_toArray, List.getElem_cons_zero, List.getElem_cons_succ, Act.put, List.setIfInBounds_toArray, List.set_cons_zero, List.set_cons_succ]
              refine wpAnyH_take (i := 5) (oi := _) (v := ?_) rfl (by kernel_rfl) (by kernel_rfl) (by kernel_rfl) (fun _ _ _ h => h) (Or.inl ⟨by rfl, ?_⟩) (by assumption) ?_
              rotate_left
              focus (intro w hSw; (try dsimp only at hSw); go_simp; try (with_reducible rfl))
              try simp only [List.getElem_toArray, List.getElem_cons_zero, List.getElem_cons_succ, Act.put, List.setIfInBounds_toArray, List.set_cons_zero, List.set_cons_succ]
              refine wpAnyH_take (i := 6) (oi := _) (v := ?_) rfl (by kernel_rfl) (by kernel_rfl) (by kernel_rfl) (fun _ _ _ h => h) (Or.inl ⟨by rfl, ?_⟩) (by assumption) ?_
              rotate_left
              focus (intro w hSw; (try dsimp only at hSw); go_simp; try (with_reducible rfl))
              try simp only [List.getElem_toArray, List.getElem_cons_zero, List.getElem_cons_succ, Act.put, List.setIfInBounds_toArray, List.set_cons_zero, List.set_cons_succ]
              refine wpAnyH_take (i := 7) (oi := _) (v := ?_) rfl (by kernel_rfl) (by kernel_rfl) (by kernel_rfl) (fun _ _ _ h => h) (Or.inl ⟨by rfl, ?_⟩) (by assumption) ?_
              rotate_left
              focus (intro w hSw; (try dsimp only at hSw); go_simp; try (with_reducible rfl))
              try simp only [List.getElem_toArray, List.getElem_cons_zero, List.getElem_cons_succ, Act.put, List.setIfInBounds_toArray, List.set_cons_zero, List.set_cons_succ]
              refine wpAnyH_take (i := 8) (oi := _) (v := ?_) rfl (by kernel_rfl) (by kernel_rfl) (by kernel_rfl) (fun _ _ _ h => h) (Or.inl ⟨by rfl, ?_⟩) (by assumption) ?_
              rotate_left
              focus (intro w hSw; (try dsimp only at hSw); go_simp; try (with_reducible rfl))
              try simp only [List.getElem_toArray, List.getElem_cons_zero, List.getElem_cons_succ, Act.put, List.setIfInBounds_toArray, List.set_cons_zero, List.set_cons_succ]
              refine wpAnyH_ready (rs := [9]) (by kernel_rfl) (by simp) ?_
              refine AllReadyH.cons (o := _) rfl (fun K hK => ?_) AllReadyH.nil
              go_simp
              refine hK.out _ _ (by ((try dsimp only); (first | go_keep | exact ⟨b0, b1⟩))) (fun hHeld => ?_)
              clear hK K
              try simp only [List.getElem_toArray, List.getElem_cons_zero, List.getElem_cons_succ, Act.put, List.setIfInBounds_toArray, List.set_cons_zero, List.set_cons_succ]
              refine wpAnyH_ready (rs := [10]) (by kernel_rfl) (by simp) ?_
              refine AllReadyH.cons (o := _) rfl (fun K hK => ?_) AllReadyH.nil
              go_simp
              (go_at_call 39; refine (iOnly n ls x _ _ _ _ HLq.out.tri HIQ2.out HPQ.out).mono ?_; rw [HON.out]; rintro e w3 ⟨rfl, hb⟩; replace HLq := Lib.hid (HLq.out.below hb); replace HRq := Lib.hid ((OwnR.of HRq.out).below hb (Nat.le_refl _)).1; replace HBq := Lib.hid (HBq.out.trans (hb.mono HBq.out.size)); replace HBI := Lib.hid (HBI.out.trans (hb.mono HBI.out.size)); replace d0 := cell_below hb d0 (cell_lt d0); clear hb b0 b1 f0 f1 hb0 HIQ2; obtain ⟨b0, b1, f0, f1, hb0⟩ := box2 HLq.out.box)
              refine hK.out _ _ (by ((try dsimp only); (first | go_keep | exact ⟨b0, b1⟩))) (fun hHeld => ?_)
              clear hK K
              try simp only [List.getElem_toArray, List.getElem_cons_zero, List.getElem_cons_succ, Act.put, List.setIfInBounds_toArray, List.set_cons_zero, List.set_cons_succ]
              refine wpAnyH_take (i := 11) (oi := _) (v := ?_) rfl (by kernel_rfl) (by kernel_rfl) (by kernel_rfl) (fun _ _ _ h => h) (Or.inl ⟨by rfl, ?_⟩) (by assumption) ?_
              rotate_left
              focus (intro w hSw; (try dsimp only at hSw); go_simp; try (with_reducible rfl))
              try simp only [List.getElem_toArray, List.getElem_cons_zero, List.getElem_cons_succ, Act.put, List.setIfInBounds_toArray, List.set_cons_zero, List.set_cons_succ]
              refine wpAnyH_take (i := 12) (oi := _) (v := ?_) rfl (by kernel_rfl) (by kernel_rfl) (by kernel_rfl) (fun _ _ _ h => h) (Or.inl ⟨by rfl, ?_⟩) (by assumption) ?_
              rotate_left
              focus (intro w hSw; (try dsimp only at hSw); go_simp; try (with_reducible rfl))
              try simp only [List.getElem_toArray, List.getElem_cons_zero, List.getElem_cons_succ, Act.put, List.setIfInBounds_toArray, List.set_cons_zero, List.set_cons_succ]
              refine wpAnyH_done (by kernel_rfl) ?_ _
              refine NoPanic.normal ?_
              have hsz3 := HBq.out.size
              have hOl : O.length ≤ 9 := by omega
              go_wp2_with (at_builtin; refine wpList_append_rd rfl _ _ _ rfl w1.heap.size 56 i0 _ 2 16 Try.underlying29 HI.out HZ0.out HZ1.out HZ2.out rfl (by omega) (.slice sa O.length sc) O.length (cells2 O) rfl (HRq.out.alloc _) (some ⟨w3.heap.size, 0, none⟩) 1 1 [.int .i64 1, .int .i64 z] rfl (srcAt_one (n := 1) (o := 2) (box_new w3 #[.int .i64 1, .int .i64 z] _) rfl) (by simp [Value.oneCell']) (by unfold maxLen; omega) (by omega) (by simp; omega) ?_; intro v' w4 hown3 hgrow hloc)
              have hb7 := Below.grown (Below.refl w1.heap.size _) hgrow (by simp; omega) (fun j hj => (HRq.out.lt j hj).1)
              have B7 := Lib.hid ((HBq.out.alloc hsz3 _).trans hb7)
              obtain ⟨na, nc, rfl⟩ := own_slice hown3
              have HOWN := Lib.hid hown3
              clear hown3 hgrow hloc hb7
              go_wp2_with fail
              go_roundw
              case rel =>
                have hE := HE.out
                have hb : bestK (segB n ls L t) (L.length - 1 - t) = e := HBE.out.trans (bestK_hit he HS.out)
                refine ⟨E, O ++ [(1, z)], by omega, rfl, by simp; omega, Lib.hid ?_, ?_, B7.out⟩
                · rw [← HT.out, compT_yes he (by rw [← hE]; exact HZZ.out) hb, ← hE, List.append_assoc]; rfl
                · have e2 : cells2 (O ++ [(1, z)]) = cells2 O ++ [.int .i64 1, .int .i64 z] := by simp [cells2]
                  rw [e2, List.length_append]; exact HOWN.out
              case measure => have hE := HE.out; simp [intOf]; omega
            | false =>
              go_wp2_with fail
              refine wp_region_noPanic ?_
              refine wp_region_held_drew (S := (fun w' => w'.cell? ⟨w.heap.size, 0, none⟩ = some (.int .i64 n) ∧ w'.cell? ⟨w.heap.size, 1, none⟩ = some (.slice va vm vc))) (by kernel_rfl) (by ((try dsimp only); (first | go_keep | exact ⟨b0, b1⟩))) (fun hHeld => ?_)
              refine wpAnyH_take (i := 0) (oi := _) (v := ?_) rfl (by kernel_rfl) (by kernel_rfl) (by kernel_rfl) (fun _ _ _ h => h) (Or.inl ⟨by rfl, ?_⟩) (by assumption) ?_
              rotate_left
              focus (intro w hSw; (try dsimp only at hSw); go_simp; try (with_reducible rfl))
              try simp only [List.getElem_toArray, List.getElem_cons_zero, List.getElem_cons_succ, Act.put, List.setIfInBounds_toArray, List.set_cons_zero, List.set_cons_succ]
              refine wpAnyH_take (i := 1) (oi := _) (v := ?_) rfl (by kernel_rfl) (by kernel_rfl) (by kernel_rfl) (fun _ _ _ h => h) (Or.inl ⟨by rfl, ?_⟩) (by assumption) ?_
              rotate_left
              focus (intro w hSw; (try dsimp only at hSw); go_simp; try (with_reducible rfl))
              try simp only [List.getElem_toArray, List.getElem_cons_zero, List.getElem_cons_succ, Act.put, List.setIfInBounds_toArray, List.set_cons_zero, List.set_cons_succ]
              refine wpAnyH_take (i := 2) (oi := _) (v := ?_) rfl (by kernel_rfl) (by kernel_rfl) (by kernel_rfl) (fun _ _ _ h => h) (Or.inl ⟨by rfl, ?_⟩) (by assumption) ?_
              rotate_left
              focus (intro w hSw; (try dsimp only at hSw); go_simp; try (with_reducible rfl))
              try simp only [List.getElem_toArray, List.getElem_cons_zero, List.getElem_cons_succ, Act.put, List.setIfInBounds_toArray, List.set_cons_zero, List.set_cons_succ]
              refine wpAnyH_take (i := 3) (oi := _) (v := ?_) rfl (by kernel_rfl) (by kernel_rfl) (by kernel_rfl) (fun _ _ _ h => h) (Or.inl ⟨by rfl, ?_⟩) (by assumption) ?_
              rotate_left
              focus (intro w hSw; (try dsimp only at hSw); go_simp; try (with_reducible rfl))
              try simp only [List.getElem_toArray, List.getElem_cons_zero, List.getElem_cons_succ, Act.put, List.setIfInBounds_toArray, List.set_cons_zero, List.set_cons_succ]
              refine wpAnyH_take (i := 4) (oi := _) (v := ?_) rfl (by kernel_rfl) (by kernel_rfl) (by kernel_rfl) (fun _ _ _ h => h) (Or.inl ⟨by rfl, ?_⟩) (by assumption) ?_
              rotate_left
              focus (intro w hSw; (try dsimp only at hSw); go_simp; try (with_reducible rfl))
              try simp only [List.getElem_toArray, List.getElem_cons_zero, List.getElem_cons_succ, Act.put, List.setIfInBounds_toArray, List.set_cons_zero, List.set_cons_succ]
              refine wpAnyH_take (i := 5) (oi := _) (v := ?_) rfl (by kernel_rfl) (by kernel_rfl) (by kernel_rfl) (fun _ _ _ h => h) (Or.inl ⟨by rfl, ?_⟩) (by assumption) ?_
              rotate_left
              focus (intro w hSw; (try dsimp only at hSw); go_simp; try (with_reducible rfl))
              try simp only [List.getElem_toArray, List.getElem_cons_zero, List.getElem_cons_succ, Act.put, List.setIfInBounds_toArray, List.set_cons_zero, List.set_cons_succ]
              refine wpAnyH_take (i := 6) (oi := _) (v := ?_) rfl (by kernel_rfl) (by kernel_rfl) (by kernel_rfl) (fun _ _ _ h => h) (Or.inl ⟨by rfl, ?_⟩) (by assumption) ?_
              rotate_left
              focus (intro w hSw; (try dsimp only at hSw); go_simp; try (with_reducible rfl))
              try simp only [List.getElem_toArray, List.getElem_cons_zero, List.getElem_cons_succ, Act.put, List.setIfInBounds_toArray, List.set_cons_zero, List.set_cons_succ]
              refine wpAnyH_take (i := 7) (oi := _) (v := ?_) rfl (by kernel_rfl) (by kernel_rfl) (by kernel_rfl) (fun _ _ _ h => h) (Or.inl ⟨by rfl, ?_⟩) (by assumption) ?_
              rotate_left
              focus (intro w hSw; (try dsimp only at hSw); go_simp; try (with_reducible rfl))
              try simp only [List.getElem_toArray, List.getElem_cons_zero, List.getElem_cons_succ, Act.put, List.setIfInBounds_toArray, List.set_cons_zero, List.set_cons_succ]
              refine wpAnyH_take (i := 8) (oi := _) (v := ?_) rfl (by kernel_rfl) (by kernel_rfl) (by kernel_rfl) (fun _ _ _ h => h) (Or.inl ⟨by rfl, ?_⟩) (by assumption) ?_
              rotate_left
              focus (intro w hSw; (try dsimp only at hSw); go_simp; try (with_reducible rfl))
              try simp only [List.getElem_toArray, List.getElem_cons_zero, List.getElem_cons_succ, Act.put, List.setIfInBounds_toArray, List.set_cons_zero, List.set_cons_succ]
              refine wpAnyH_ready (rs := [9]) (by kernel_rfl) (by simp) ?_
              refine AllReadyH.cons (o := _) rfl (fun K hK => ?_) AllReadyH.nil
              go_simp
              refine hK.out _ _ (by ((try dsimp only); (first | go_keep | exact ⟨b0, b1⟩))) (fun hHeld => ?_)
              clear hK K
              try simp only [List.getElem_toArray, List.getElem_cons_zero, List.getElem_cons_succ, Act.put, List.setIfInBounds_toArray, List.set_cons_zero, List.set_cons_succ]
              refine wpAnyH_ready (rs := [10]) (by kernel_rfl) (by simp) ?_
              refine AllReadyH.cons (o := _) rfl (fun K hK => ?_) AllReadyH.nil
              go_simp
              (go_at_call 39; refine (iOnly n ls x _ _ _ _ HLq.out.tri HIQ2.out HPQ.out).mono ?_; rw [HON.out]; rintro e w3 ⟨rfl, hb⟩; replace HLq := Lib.hid (HLq.out.below hb); replace HRq := Lib.hid ((OwnR.of HRq.out).below hb (Nat.le_refl _)).1; replace HBq := Lib.hid (HBq.out.trans (hb.mono HBq.out.size)); replace HBI := Lib.hid (HBI.out.trans (hb.mono HBI.out.size)); replace d0 := cell_below hb d0 (cell_lt d0); clear hb b0 b1 f0 f1 hb0 HIQ2; obtain ⟨b0, b1, f0, f1, hb0⟩ := box2 HLq.out.box)
              refine hK.out _ _ (by ((try dsimp only); (first | go_keep | exact ⟨b0, b1⟩))) (fun hHeld => ?_)
              clear hK K
              try simp only [List.getElem_toArray, List.getElem_cons_zero, List.getElem_cons_succ, Act.put, List.setIfInBounds_toArray, List.set_cons_zero, List.set_cons_succ]
              refine wpAnyH_take (i := 11) (oi := _) (v := ?_) rfl (by kernel_rfl) (by kernel_rfl) (by kernel_rfl) (fun _ _ _ h => h) (Or.inl ⟨by rfl, ?_⟩) (by assumption) ?_
              rotate_left
              focus (intro w hSw; (try dsimp only at hSw); go_simp; try (with_reducible rfl))
              try simp only [List.getElem_toArray, List.getElem_cons_zero, List.getElem_cons_succ, Act.put, List.setIfInBounds_toArray, List.set_cons_zero, List.set_cons_succ]
              refine wpAnyH_take (i := 12) (oi := _) (v := ?_) rfl (by kernel_rfl) (by kernel_rfl) (by kernel_rfl) (fun _ _ _ h => h) (Or.inl ⟨by rfl, ?_⟩) (by assumption) ?_
              rotate_left
              focus (intro w hSw; (try dsimp only at hSw); go_simp; try (with_reducible rfl))
              try simp only [List.getElem_toArray, List.getElem_cons_zero, List.getElem_cons_succ, Act.put, List.setIfInBounds_toArray, List.set_cons_zero, List.set_cons_succ]
              refine wpAnyH_done (by kernel_rfl) ?_ _
              refine NoPanic.normal ?_
              go_wp2_with fail
              go_roundw
              case rel => exact ⟨e - 1, by have := HE.out; omega, by have := HE.out; congr 1; omega, Lib.hid (HBE.out.trans (bestK_miss he HS.out)), HBI.out⟩
              case measure => simp [intOf]; omega
          · obtain rfl : e = 0 := by omega
            have e1 : decide ((t:Int) < (t:Int)) = false := decide_eq_false (by omega)
            simp only [Nat.add_zero] at hte ⊢
            have d0 := HLq.out.ints.get HX.out
            have d1 := HLq.out.ints.get HY.out
            obtain ⟨b0, b1, f0, f1, hb0⟩ := box2 HLq.out.box
            replace HLq := Lib.hid HLq.out.drew
            replace HRq := Lib.hid (own_drew HRq.out)
            replace HBq := Lib.hid HBq.out.drew
            go_wp2_with fail
            refine wp_region_noPanic ?_
            refine wp_region_held_drew (S := (fun w' => w'.cell? ⟨w.heap.size, 0, none⟩ = some (.int .i64 n) ∧ w'.cell? ⟨w.heap.size, 1, none⟩ = some (.slice va vm vc))) (by kernel_rfl) (by ((try dsimp only); (first | go_keep | exact ⟨b0, b1⟩))) (fun hHeld => ?_)
            refine wpAnyH_take (i := 0) (oi := _) (v := ?_) rfl (by kernel_rfl) (by kernel_rfl) (by kernel_rfl) (fun _ _ _ h => h) (Or.inl ⟨by rfl, ?_⟩) (by assumption) ?_
            rotate_left
            focus (intro w hSw; (try dsimp only at hSw); go_simp; try (with_reducible rfl))
            try simp only [List.getElem_toArray, List.getElem_cons_zero, List.getElem_cons_succ, Act.put, List.setIfInBounds_toArray, List.set_cons_zero, List.set_cons_succ]
            refine wpAnyH_take (i := 1) (oi := _) (v := ?_) rfl (by kernel_rfl) (by kernel_rfl) (by kernel_rfl) (fun _ _ _ h => h) (Or.inl ⟨by rfl, ?_⟩) (by assumption) ?_
            rotate_left
            focus (intro w hSw; (try dsimp only at hSw); go_simp; try (with_reducible rfl))
            try simp only [List.getElem_toArray, List.getElem_cons_zero, List.getElem_cons_succ, Act.put, List.setIfInBounds_toArray, List.set_cons_zero, List.set_cons_succ]
            refine wpAnyH_take (i := 2) (oi := _) (v := ?_) rfl (by kernel_rfl) (by kernel_rfl) (by kernel_rfl) (fun _ _ _ h => h) (Or.inl ⟨by rfl, ?_⟩) (by assumption) ?_
            rotate_left
            focus (intro w hSw; (try dsimp only at hSw); go_simp; try (with_reducible rfl))
            try simp only [List.getElem_toArray, List.getElem_cons_zero, List.getElem_cons_succ, Act.put, List.setIfInBounds_toArray, List.set_cons_zero, List.set_cons_succ]
            refine wpAnyH_take (i := 3) (oi := _) (v := ?_) rfl (by kernel_rfl) (by kernel_rfl) (by kernel_rfl) (fun _ _ _ h => h) (Or.inl ⟨by rfl, ?_⟩) (by assumption) ?_
            rotate_left
            focus (intro w hSw; (try dsimp only at hSw); go_simp; try (with_reducible rfl))
            try simp only [List.getElem_toArray, List.getElem_cons_zero, List.getElem_cons_succ, Act.put, List.setIfInBounds_toArray, List.set_cons_zero, List.set_cons_succ]
            refine wpAnyH_take (i := 4) (oi := _) (v := Go.undef) rfl (by kernel_rfl) (by kernel_rfl) (by kernel_rfl) (fun _ _ _ h => h) (Or.inr ⟨by rfl, rfl⟩) (by assumption) ?_
            try simp only [List.getElem_toArray, List.getElem_cons_zero, List.getElem_cons_succ, Act.put, List.setIfInBounds_toArray, List.set_cons_zero, List.set_cons_succ]
            refine wpAnyH_take (i := 5) (oi := _) (v := Go.undef) rfl (by kernel_rfl) (by kernel_rfl) (by kernel_rfl) (fun _ _ _ h => h) (Or.inr ⟨by rfl, rfl⟩) (by assumption) ?_
            try simp only [List.getElem_toArray, List.getElem_cons_zero, List.getElem_cons_succ, Act.put, List.setIfInBounds_toArray, List.set_cons_zero, List.set_cons_succ]
            refine wpAnyH_take (i := 6) (oi := _) (v := Go.undef) rfl (by kernel_rfl) (by kernel_rfl) (by kernel_rfl) (fun _ _ _ h => h) (Or.inr ⟨by rfl, rfl⟩) (by assumption) ?_
            try simp only [List.getElem_toArray, List.getElem_cons_zero, List.getElem_cons_succ, Act.put, List.setIfInBounds_toArray, List.set_cons_zero, List.set_cons_succ]
            refine wpAnyH_take (i := 7) (oi := _) (v := Go.undef) rfl (by kernel_rfl) (by kernel_rfl) (by kernel_rfl) (fun _ _ _ h => h) (Or.inr ⟨by rfl, rfl⟩) (by assumption) ?_
            try simp only [List.getElem_toArray, List.getElem_cons_zero, List.getElem_cons_succ, Act.put, List.setIfInBounds_toArray, List.set_cons_zero, List.set_cons_succ]
            refine wpAnyH_take (i := 8) (oi := _) (v := Go.undef) rfl (by kernel_rfl) (by kernel_rfl) (by kernel_rfl) (fun _ _ _ h => h) (Or.inr ⟨by rfl, rfl⟩) (by assumption) ?_
            try simp only [List.getElem_toArray, List.getElem_cons_zero, List.getElem_cons_succ, Act.put, List.setIfInBounds_toArray, List.set_cons_zero, List.set_cons_succ]
            refine wpAnyH_take (i := 9) (oi := _) (v := Go.undef) rfl (by kernel_rfl) (by kernel_rfl) (by kernel_rfl) (fun _ _ _ h => h) (Or.inr ⟨by rfl, rfl⟩) (by assumption) ?_
            try simp only [List.getElem_toArray, List.getElem_cons_zero, List.getElem_cons_succ, Act.put, List.setIfInBounds_toArray, List.set_cons_zero, List.set_cons_succ]
            refine wpAnyH_take (i := 10) (oi := _) (v := Go.undef) rfl (by kernel_rfl) (by kernel_rfl) (by kernel_rfl) (fun _ _ _ h => h) (Or.inr ⟨by rfl, rfl⟩) (by assumption) ?_
            try simp only [List.getElem_toArray, List.getElem_cons_zero, List.getElem_cons_succ, Act.put, List.setIfInBounds_toArray, List.set_cons_zero, List.set_cons_succ]
            refine wpAnyH_take (i := 11) (oi := _) (v := Go.undef) rfl (by kernel_rfl) (by kernel_rfl) (by kernel_rfl) (fun _ _ _ h => h) (Or.inr ⟨by rfl, rfl⟩) (by assumption) ?_
            try simp only [List.getElem_toArray, List.getElem_cons_zero, List.getElem_cons_succ, Act.put, List.setIfInBounds_toArray, List.set_cons_zero, List.set_cons_succ]
            refine wpAnyH_take (i := 12) (oi := _) (v := ?_) rfl (by kernel_rfl) (by kernel_rfl) (by kernel_rfl) (fun _ _ _ h => h) (Or.inl ⟨by rfl, ?_⟩) (by assumption) ?_
            rotate_left
            focus (intro w hSw; (try dsimp only at hSw); go_simp; try (with_reducible rfl))
            try simp only [List.getElem_toArray, List.getElem_cons_zero, List.getElem_cons_succ, Act.put, List.setIfInBounds_toArray, List.set_cons_zero, List.set_cons_succ]
            refine wpAnyH_done (by kernel_rfl) ?_ _
            refine NoPanic.normal ?_
            have hw1 : IntKind.i64.wrap ((t:Int) + 1) = (t:Int) + 1 := IntWalk.i64_in _ (by omega)
            have hI2 : (t:Int) < (m:Int) := by omega
            have hI3 : (0:Int) ≤ (t:Int) := by omega
            have hI4 : (t:Int) + 1 < (m:Int) := by omega
            have hI5 : (0:Int) ≤ (t:Int) + 1 := by omega
            have hI6 : ((t:Int) + 1).toNat = t + 1 := by omega
            obtain ⟨kk, hkk⟩ : ∃ kk, lkOf ls x y = kk := ⟨_, rfl⟩
            have HKK := Lib.hid hkk
            clear hkk
            go_wp2_with fail
            replace HLq := Lib.hid HLq.out.drew
            replace HRq := Lib.hid (own_drew HRq.out)
            replace HBq := Lib.hid HBq.out.drew
            clear b0 b1 f0 f1 hb0
            obtain ⟨b0, b1, f0, f1, hb0⟩ := box2 HLq.out.box
            refine wp_region_noPanic ?_
            refine wp_region_held_drew (S := (fun w' => w'.cell? ⟨w.heap.size, 0, none⟩ = some (.int .i64 n) ∧ w'.cell? ⟨w.heap.size, 1, none⟩ = some (.slice va vm vc) ∧ w'.cell? ⟨b, off + t, none⟩ = some (.int .i64 x) ∧ w'.cell? ⟨b, off + (t + 1), none⟩ = some (.int .i64 y))) (by kernel_rfl) (by ((try dsimp only); (first | go_keep | exact ⟨b0, b1, d0, d1⟩))) (fun hHeld => ?_)
            refine wpAnyH_take (i := 0) (oi := _) (v := ?_) rfl (by kernel_rfl) (by kernel_rfl) (by kernel_rfl) (fun _ _ _ h => h) (Or.inl ⟨by rfl, ?_⟩) (by assumption) ?_
            rotate_left
            focus (intro w hSw; (try dsimp only at hSw); go_simp; try (with_reducible rfl))
            try simp only [List.getElem_toArray, List.getElem_cons_zero, List.getElem_cons_succ, Act.put, List.setIfInBounds_toArray, List.set_cons_zero, List.set_cons_succ]
            refine wpAnyH_take (i := 1) (oi := _) (v := ?_) rfl (by kernel_rfl) (by kernel_rfl) (by kernel_rfl) (fun _ _ _ h => h) (Or.inl ⟨by rfl, ?_⟩) (by assumption) ?_
            rotate_left
            focus (intro w hSw; (try dsimp only at hSw); go_simp; try (with_reducible rfl))
            try simp only [List.getElem_toArray, List.getElem_cons_zero, List.getElem_cons_succ, Act.put, List.setIfInBounds_toArray, List.set_cons_zero, List.set_cons_succ]
            refine wpAnyH_take (i := 2) (oi := _) (v := ?_) rfl (by kernel_rfl) (by kernel_rfl) (by kernel_rfl) (fun _ _ _ h => h) (Or.inl ⟨by rfl, ?_⟩) (by assumption) ?_
            rotate_left
            focus (intro w hSw; (try dsimp only at hSw); go_simp; try (with_reducible rfl))
            try simp only [List.getElem_toArray, List.getElem_cons_zero, List.getElem_cons_succ, Act.put, List.setIfInBounds_toArray, List.set_cons_zero, List.set_cons_succ]
            refine wpAnyH_take (i := 3) (oi := _) (v := ?_) rfl (by kernel_rfl) (by kernel_rfl) (by kernel_rfl) (fun _ _ _ h => h) (Or.inl ⟨by rfl, ?_⟩) (by assumption) ?_
            rotate_left
            focus (intro w hSw; (try dsimp only at hSw); go_simp; try (with_reducible rfl))
            try simp only [List.getElem_toArray, List.getElem_cons_zero, List.getElem_cons_succ, Act.put, List.setIfInBounds_toArray, List.set_cons_zero, List.set_cons_succ]
            refine wpAnyH_take (i := 4) (oi := _) (v := ?_) rfl (by kernel_rfl) (by kernel_rfl) (by kernel_rfl) (fun _ _ _ h => h) (Or.inl ⟨by rfl, ?_⟩) (by assumption) ?_
            rotate_left
            focus (intro w hSw; (try dsimp only at hSw); go_simp; try (with_reducible rfl))
            try simp only [List.getElem_toArray, List.getElem_cons_zero, List.getElem_cons_succ, Act.put, List.setIfInBounds_toArray, List.set_cons_zero, List.set_cons_succ]
            refine wpAnyH_take (i := 5) (oi := _) (v := ?_) rfl (by kernel_rfl) (by kernel_rfl) (by kernel_rfl) (fun _ _ _ h => h) (Or.inl ⟨by rfl, ?_⟩) (by assumption) ?_
            rotate_left
            focus (intro w hSw; (try dsimp only at hSw); go_simp; try (with_reducible rfl))
            try simp only [List.getElem_toArray, List.getElem_cons_zero, List.getElem_cons_succ, Act.put, List.setIfInBounds_toArray, List.set_cons_zero, List.set_cons_succ]
            refine wpAnyH_take (i := 6) (oi := _) (v := ?_) rfl (by kernel_rfl) (by kernel_rfl) (by kernel_rfl) (fun _ _ _ h => h) (Or.inl ⟨by rfl, ?_⟩) (by assumption) ?_
            rotate_left
            focus (intro w hSw; (try dsimp only at hSw); go_simp; try (with_reducible rfl))
            try simp only [List.getElem_toArray, List.getElem_cons_zero, List.getElem_cons_succ, Act.put, List.setIfInBounds_toArray, List.set_cons_zero, List.set_cons_succ]
            refine wpAnyH_take (i := 7) (oi := _) (v := ?_) rfl (by kernel_rfl) (by kernel_rfl) (by kernel_rfl) (fun _ _ _ h => h) (Or.inl ⟨by rfl, ?_⟩) (by assumption) ?_
            rotate_left
            focus (intro w hSw; (try dsimp only at hSw); go_simp; try (with_reducible rfl))
            try simp only [List.getElem_toArray, List.getElem_cons_zero, List.getElem_cons_succ, Act.put, List.setIfInBounds_toArray, List.set_cons_zero, List.set_cons_succ]
            refine wpAnyH_take (i := 8) (oi := _) (v := ?_) rfl (by kernel_rfl) (by kernel_rfl) (by kernel_rfl) (fun _ _ _ h => h) (Or.inl ⟨by rfl, ?_⟩) (by assumption) ?_
            rotate_left
            focus (intro w hSw; (try dsimp only at hSw); go_simp; try (with_reducible rfl))
            try simp only [List.getElem_toArray, List.getElem_cons_zero, List.getElem_cons_succ, Act.put, List.setIfInBounds_toArray, List.set_cons_zero, List.set_cons_succ]
            refine wpAnyH_take (i := 9) (oi := _) (v := ?_) rfl (by kernel_rfl) (by kernel_rfl) (by kernel_rfl) (fun _ _ _ h => h) (Or.inl ⟨by rfl, ?_⟩) (by assumption) ?_
            rotate_left
            focus (intro w hSw; (try dsimp only at hSw); go_simp; try (with_reducible rfl))
            try simp only [List.getElem_toArray, List.getElem_cons_zero, List.getElem_cons_succ, Act.put, List.setIfInBounds_toArray, List.set_cons_zero, List.set_cons_succ]
            refine wpAnyH_take (i := 10) (oi := _) (v := ?_) rfl (by kernel_rfl) (by kernel_rfl) (by kernel_rfl) (fun _ _ _ h => h) (Or.inl ⟨by rfl, ?_⟩) (by assumption) ?_
            rotate_left
            focus (intro w hSw; (try dsimp only at hSw); go_simp; try (with_reducible rfl))
            try simp only [List.getElem_toArray, List.getElem_cons_zero, List.getElem_cons_succ, Act.put, List.setIfInBounds_toArray, List.set_cons_zero, List.set_cons_succ]
            refine wpAnyH_take (i := 15) (oi := _) (v := ?_) rfl (by kernel_rfl) (by kernel_rfl) (by kernel_rfl) (fun _ _ _ h => h) (Or.inl ⟨by rfl, ?_⟩) (by assumption) ?_
            rotate_left
            focus (intro w hSw; (try dsimp only at hSw); go_simp; try (with_reducible rfl))
            try simp only [List.getElem_toArray, List.getElem_cons_zero, List.getElem_cons_succ, Act.put, List.setIfInBounds_toArray, List.set_cons_zero, List.set_cons_succ]
            refine wpAnyH_take (i := 16) (oi := _) (v := ?_) rfl (by kernel_rfl) (by kernel_rfl) (by kernel_rfl) (fun _ _ _ h => h) (Or.inl ⟨by rfl, ?_⟩) (by assumption) ?_
            rotate_left
            focus (intro w hSw; (try dsimp only at hSw); go_simp; try (with_reducible rfl))
            try simp only [List.getElem_toArray, List.getElem_cons_zero, List.getElem_cons_succ, Act.put, List.setIfInBounds_toArray, List.set_cons_zero, List.set_cons_succ]
            refine wpAnyH_ready (rs := [11]) (by kernel_rfl) (by simp) ?_
            refine AllReadyH.cons (o := _) rfl (fun K hK => ?_) AllReadyH.nil
            go_simp
            (go_at_call 40; refine (iLinkOf n ls x y _ _ HLq.out.tri (by have := HGK.out.len; omega)).mono ?_; rw [HKK.out]; rintro e w3 ⟨rfl, hb⟩; replace HLq := Lib.hid (HLq.out.below hb); replace HRq := Lib.hid ((OwnR.of HRq.out).below hb (Nat.le_refl _)).1; replace HBq := Lib.hid (HBq.out.trans (hb.mono HBq.out.size)); replace d0 := cell_below hb d0 (cell_lt d0); replace d1 := cell_below hb d1 (cell_lt d1); clear hb b0 b1 f0 f1 hb0; obtain ⟨b0, b1, f0, f1, hb0⟩ := box2 HLq.out.box)
            refine hK.out _ _ (by ((try dsimp only); (first | go_keep | exact ⟨b0, b1, d0, d1⟩))) (fun hHeld => ?_)
            clear hK K
            try simp only [List.getElem_toArray, List.getElem_cons_zero, List.getElem_cons_succ, Act.put, List.setIfInBounds_toArray, List.set_cons_zero, List.set_cons_succ]
            refine wpAnyH_take (i := 12) (oi := _) (v := ?_) rfl (by kernel_rfl) (by kernel_rfl) (by kernel_rfl) (fun _ _ _ h => h) (Or.inl ⟨by rfl, ?_⟩) (by assumption) ?_
            rotate_left
            focus (intro w hSw; (try dsimp only at hSw); go_simp; try (with_reducible rfl))
            try simp only [List.getElem_toArray, List.getElem_cons_zero, List.getElem_cons_succ, Act.put, List.setIfInBounds_toArray, List.set_cons_zero, List.set_cons_succ]
            refine wpAnyH_ready (rs := [13]) (by kernel_rfl) (by simp) ?_
            refine AllReadyH.cons (o := _) rfl (fun K hK => ?_) AllReadyH.nil
            go_simp
            (have SB := Lib.hid (box_new w3 #[.int .i64 2, .int .i64 kk] 56); have hb : Below w3.heap.size w3 (w3.alloc (.cells #[.int .i64 2, .int .i64 kk] 56)) := ((Below.refl _ _).alloc (Nat.le_refl _) _); have hws := HBq.out.size; replace HLq := Lib.hid (HLq.out.below hb); replace HRq := Lib.hid (HRq.out.alloc (.cells #[.int .i64 2, .int .i64 kk] 56)); replace HBq := Lib.hid (HBq.out.trans (hb.mono HBq.out.size)); replace d0 := cell_below hb d0 (cell_lt d0); replace d1 := cell_below hb d1 (cell_lt d1); clear hb b0 b1 f0 f1 hb0; obtain ⟨b0, b1, f0, f1, hb0⟩ := box2 HLq.out.box)
            refine hK.out _ _ (by ((try dsimp only); (first | go_keep | exact ⟨b0, b1, d0, d1⟩))) (fun hHeld => ?_)
            clear hK K
            try simp only [List.getElem_toArray, List.getElem_cons_zero, List.getElem_cons_succ, Act.put, List.setIfInBounds_toArray, List.set_cons_zero, List.set_cons_succ]
            refine wpAnyH_ready (rs := [14]) (by kernel_rfl) (by simp) ?_
            refine AllReadyH.cons (o := _) rfl (fun K hK => ?_) AllReadyH.nil
            (refine step_append_rd (by rfl) _ _ _ (by rfl) w1.heap.size 56 i0 _ 2 16 Try.underlying29 HI.out HZ0.out HZ1.out HZ2.out rfl (by omega) (.slice sa O.length sc) O.length (cells2 O) (by rfl) HRq.out (some ⟨w3.heap.size, 0, none⟩) 1 1 [.int .i64 2, .int .i64 kk] (by rfl) (srcAt_one (n := 1) (o := 2) SB.out rfl) (by simp [Value.oneCell']) (by unfold maxLen; omega) (by omega) (by simp; omega) ?_; intro v' w7 hown3 hgrow hloc; have hb7 := Below.grown (Below.refl w1.heap.size _) hgrow (by simp; omega) (fun j hj => (HRq.out.lt j hj).1); have B7 := Lib.hid (HBq.out.trans hb7); clear b0 b1 f0 f1 hb0; obtain ⟨b0, b1, f0, f1, hb0⟩ := box2 (HLP.out.below B7.out).box; replace d0 := cell_below hb7 d0 (show b < w1.heap.size by have := BW.out.size; omega); replace d1 := cell_below hb7 d1 (show b < w1.heap.size by have := BW.out.size; omega))
            refine hK.out _ _ (by ((try dsimp only); (first | go_keep | exact ⟨b0, b1, d0, d1⟩))) (fun hHeld => ?_)
            clear hK K
            try simp only [List.getElem_toArray, List.getElem_cons_zero, List.getElem_cons_succ, Act.put, List.setIfInBounds_toArray, List.set_cons_zero, List.set_cons_succ]
            refine wpAnyH_take (i := 17) (oi := _) (v := ?_) rfl (by kernel_rfl) (by kernel_rfl) (by kernel_rfl) (fun _ _ _ h => h) (Or.inl ⟨by rfl, ?_⟩) (by assumption) ?_
            rotate_left
            focus (intro w hSw; (try dsimp only at hSw); go_simp; try (with_reducible rfl))
            try simp only [List.getElem_toArray, List.getElem_cons_zero, List.getElem_cons_succ, Act.put, List.setIfInBounds_toArray, List.set_cons_zero, List.set_cons_succ]
            refine wpAnyH_take (i := 18) (oi := _) (v := ?_) rfl (by kernel_rfl) (by kernel_rfl) (by kernel_rfl) (fun _ _ _ h => h) (Or.inl ⟨by rfl, ?_⟩) (by assumption) ?_
            rotate_left
            focus (intro w hSw; (try dsimp only at hSw); go_simp; try (with_reducible rfl))
            try simp only [List.getElem_toArray, List.getElem_cons_zero, List.getElem_cons_succ, Act.put, List.setIfInBounds_toArray, List.set_cons_zero, List.set_cons_succ]
            refine wpAnyH_done (by kernel_rfl) ?_ _
            refine NoPanic.normal ?_
            obtain ⟨na, nc, rfl⟩ := own_slice hown3
            have HOWN := Lib.hid hown3
            clear hown3 hgrow hloc hb7
            go_wp2_with fail
            go_roundw
            case rel =>
              refine ⟨t + 1, O ++ [(2, kk)], by omega, by go_num, by simp; omega, Lib.hid ?_, ?_, B7.out⟩
              · rw [← HT.out, compT_no HX.out HY.out HBE.out, HKK.out, List.append_assoc]; rfl
              · have e2 : cells2 (O ++ [(2, kk)]) = cells2 O ++ [.int .i64 2, .int .i64 kk] := by simp [cells2]
                rw [e2, List.length_append]; exact HOWN.out
            case measure => simp [intOf]; omega
      · obtain rfl : t + 1 = m := by omega
        have e0 : decide ((t:Int) < (((t + 1 : Nat) : Int)) - 1) = false := decide_eq_false (by omega)
        go_wp2_with fail
        go_ret2
        refine ⟨(fun h => by rw [HQ.out] at h; cases h), fun _ => ⟨_, rfl, ?_⟩, HLr.out.bw⟩
        have h1 := HT.out
        rw [compT_end (by rw [← HM.out]; exact Nat.le_refl _), List.append_nil] at h1
        rw [← h1]
        exact (OwnR.of HR.out).mono BW.out.size (Nat.le_refl _)
end Go.Proofs.Ytoebefpmfgkpoaa
