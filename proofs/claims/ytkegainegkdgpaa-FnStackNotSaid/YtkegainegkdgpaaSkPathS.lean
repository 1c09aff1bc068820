/- The nodes of a packet: l4Part, StackPath of the reference: stkPV. -/
import Derived.Test.YtkegainegkdgpaaSkPathI
namespace Go.Proofs.Ytkegainegkdgpaa
set_option linter.unusedSimpArgs false
set_option linter.unusedVariables false
open Go.RowKit

set_option maxRecDepth 100000 in
set_option maxHeartbeats 4000000 in
theorem sPart (n : Int) (ls : List LinkD) (x y lk lx : Int) (v : Value) (w : World) (hv : TriplesAt w v ls) (h : GOk n ls) (hx : nd n.toNat x) (hh : hopTo n ls x (lk, lx) = some y) :
    Calls Try.prog 41 #[.agg #[.int .i64 n, v], .int .i64 x, .int .i64 y, .agg #[.int .i64 lk, .int .i64 lx]] w fun e w' => ∃ A c, e = .returned (.slice A (segL n ls x (lk, lx)).length c) ∧ SrcAt w' A (segL n ls x (lk, lx)).length 1 ((segL n ls x (lk, lx)).map (Value.int .i64)) ∧ Below w.heap.size w w' := by
  have HV := Lib.hid hv
  obtain ⟨va, vm, vcap, rfl⟩ := hv.form
  have HG := Lib.hid h; have HX := Lib.hid hx; have HH := Lib.hid hh
  have hy : nd n.toNat y := hop_nd h hx hh
  have HY := Lib.hid hy
  have hc := hop_cases h hh
  clear hv h hx hh hy
  by_cases h1 : lk = 1
  · subst h1
    have h4 := (hc.resolve_right (fun e => by obtain ⟨_, _, e, _⟩ := e; simp at e)).2.2.2
    have t1 : ((1:Int) == 2) = false := by simp
    have hSP : Hid (shP n ls x y = x :: spG n ls x y) := Lib.hid (by
      unfold shP
      rw [if_pos]
      rw [HG.out.dst.symm HG.out.fits.ok HY.out HX.out]; exact h4)
    have HSEG : Hid (segL n ls x (1, lx) = spG n ls x y) := Lib.hid (by unfold segL; rw [if_pos rfl, nextN_of HH.out])
    clear hc h4
    go_enter Try.func41, Try.ntmps41
    go_wp2_with fail
    refine (sPath n ls x y _ _ (HV.out.below (by with_reducible (repeat (first | (refine below_drewN ?_ _) | (refine Below.drew ?_) | (refine below_alloc ?_ (by first | omega | (simp; done) | (simp; omega)) _) | (refine Below.setCell ?_ (by first | omega | (simp; done) | (simp; omega)) _) | exact Below.refl _ _ | assumption | (refine below_call ?_ (by first | omega | (simp; done) | (simp; omega)) (by assumption))))) (Nat.le_refl _)) HG.out HX.out HY.out).mono ?_
    rintro e w1 ⟨v1, rfl, hO, hb⟩
    rw [hSP.out] at hO
    obtain ⟨g2, c2, hgc, hlo2⟩ := own_pos hO.1 (by simp)
    subst hgc
    have BW := Lib.hid (below_call (B := w.heap.size) (a := w) (by with_reducible (repeat (first | (refine below_drewN ?_ _) | (refine Below.drew ?_) | (refine below_alloc ?_ (by first | omega | (simp; done) | (simp; omega)) _) | (refine Below.setCell ?_ (by first | omega | (simp; done) | (simp; omega)) _) | exact Below.refl _ _ | assumption | (refine below_call ?_ (by first | omega | (simp; done) | (simp; omega)) (by assumption))))) (Nat.le_refl _) hb)
    obtain ⟨SP, hSPe⟩ : ∃ SP, spG n ls x y = SP := ⟨_, rfl⟩
    have HSPe := Lib.hid hSPe
    rw [hSPe] at hO ⊢
    replace hO : OwnR w1 _ w1.heap.size 3 1 (.slice (some ⟨g2, 0, none⟩) (SP.length + 1) c2) (SP.length + 1) ((x :: SP).map (Value.int .i64)) := hO
    try simp only [List.length_cons]
    obtain ⟨L, hL⟩ : ∃ L, SP.length + 1 = L := ⟨_, rfl⟩
    have HL2 : Hid (SP.length = L - 1) := Lib.hid (by omega)
    rw [hL] at hO ⊢
    have hL1 : (1:Int) ≤ (L:Int) := by omega
    obtain ⟨A2, c3, hs2, S2⟩ := own_tail hO
    have HS2 := Lib.hid S2
    clear hb hO hL hSPe S2
    go_wp2_with fail
    go_ret
    rw [HSEG.out, HSPe.out, HL2.out]
    exact ⟨A2, c3, rfl, HS2.out, BW.out⟩
  · obtain rfl : lk = 2 := by
      rcases hc with h2 | ⟨_, _, h2, _⟩
      · exact absurd h2.1 h1
      · exact h2
    have t1 : ((2:Int) == 2) = true := by simp
    have HSEG : Hid (segL n ls x (2, lx) = [y]) := Lib.hid (by unfold segL; rw [if_neg (by simp), nextN_of HH.out])
    clear hc
    go_enter Try.func41, Try.ntmps41
    go_wp2_with fail
    go_ret
    rw [HSEG.out]
    exact ⟨_, _, rfl, srcAt_one (n := 1) (o := 1) (box_at _ #[.int .i64 y] _ (by simp)) rfl, (by with_reducible (repeat (first | (refine below_drewN ?_ _) | (refine Below.drew ?_) | (refine below_alloc ?_ (by first | omega | (simp; done) | (simp; omega)) _) | (refine Below.setCell ?_ (by first | omega | (simp; done) | (simp; omega)) _) | exact Below.refl _ _ | assumption | (refine below_call ?_ (by first | omega | (simp; done) | (simp; omega)) (by assumption)))))⟩
set_option maxRecDepth 100000 in
set_option maxHeartbeats 4000000 in
theorem sStackPath (n : Int) (ls : List LinkD) (a : Int) (s : List LabelD) (v u : Value) (w : World) (hv : TriplesAt w v ls) (hu : PairsAt w u s) :
    Calls Try.prog 15 #[.agg #[.int .i64 n, v], .int .i64 a, u] w (MadeInts w (stkPV n ls a s)) := by
  have HV := Lib.hid hv; have HU := Lib.hid hu
  obtain ⟨va, vcap, vb, voff, rfl, hvcap, hvmax, hva, hvc⟩ := hv
  obtain ⟨vm, hvm⟩ : ∃ m, m = ls.length := ⟨_, rfl⟩
  rw [← hvm] at hvcap hva HV ⊢
  have HVM := Lib.hid hvm; have HVC := Lib.hid hvc; have HVA := Lib.hid hva
  clear hvm hvc hva
  obtain ⟨ua, ucap, ub, uoff, rfl, hucap, humax, hua, huc⟩ := hu
  obtain ⟨m, hm⟩ : ∃ m, m = s.length := ⟨_, rfl⟩
  rw [← hm] at hucap hua HU ⊢
  have HM := Lib.hid hm; have HUC := Lib.hid huc; have HUA := Lib.hid hua
  unfold maxLen at humax hvmax
  clear hm huc hua
  go_enter Try.func15, Try.ntmps15
  go_wp2_with fail
  refine (sStk n ls a s _ _ _ (HV.out.below (by with_reducible (repeat (first | (refine below_drewN ?_ _) | (refine Below.drew ?_) | (refine below_alloc ?_ (by first | omega | (simp; done) | (simp; omega)) _) | (refine Below.setCell ?_ (by first | omega | (simp; done) | (simp; omega)) _) | exact Below.refl _ _ | assumption | (refine below_call ?_ (by first | omega | (simp; done) | (simp; omega)) (by assumption))))) (Nat.le_refl _)) (HU.out.below (by with_reducible (repeat (first | (refine below_drewN ?_ _) | (refine Below.drew ?_) | (refine below_alloc ?_ (by first | omega | (simp; done) | (simp; omega)) _) | (refine Below.setCell ?_ (by first | omega | (simp; done) | (simp; omega)) _) | exact Below.refl _ _ | assumption | (refine below_call ?_ (by first | omega | (simp; done) | (simp; omega)) (by assumption))))) (Nat.le_refl _))).mono ?_
  rintro e w1 ⟨hno, hyes, hb⟩
  have G := Lib.hid (Box.call (b := w.heap.size) (c := #[.int .i64 n, .slice va vm vcap]) (t := 25) hb (by with_reducible (repeat (first | (refine box_at _ _ _ ?_; first | rfl | (simp; done)) | apply Box.alloc | apply Box.drewN | apply Box.drew))))
  obtain ⟨G_0, G_1, G_2, G_3, G_4⟩ := box2 G.out
  have BW := Lib.hid (below_call (B := w.heap.size) (a := w) (by with_reducible (repeat (first | (refine below_drewN ?_ _) | (refine Below.drew ?_) | (refine below_alloc ?_ (by first | omega | (simp; done) | (simp; omega)) _) | (refine Below.setCell ?_ (by first | omega | (simp; done) | (simp; omega)) _) | exact Below.refl _ _ | assumption | (refine below_call ?_ (by first | omega | (simp; done) | (simp; omega)) (by assumption))))) (Nat.le_refl _) hb)
  clear hb
  rcases hs : stkOf n ls a s with _ | q
  · obtain ⟨A, m', c, rfl⟩ := hno hs
    clear hno hyes
    have HS := Lib.hid hs
    clear hs
    go_wp2_with fail
    go_ret
    rw [MadeInts, stkPV, HS.out]
    have hs := BW.out.size
    have hB := BW.out
    exact ⟨_, rfl, OwnR.of (own_empty w1 w.heap.size 3 1 hs), (by with_reducible (repeat (first | (refine below_drewN ?_ _) | (refine Below.drew ?_) | (refine below_alloc ?_ (by first | omega | (simp; done) | (simp; omega)) _) | (refine Below.setCell ?_ (by first | omega | (simp; done) | (simp; omega)) _) | exact Below.refl _ _ | assumption | (refine below_call ?_ (by first | omega | (simp; done) | (simp; omega)) (by assumption)))))⟩
  obtain ⟨v, rfl, hO⟩ := hyes q hs
  clear hno hyes
  have HS := Lib.hid hs
  clear hs
  have hF := stkOf_some HS.out
  have hm8 : m ≤ 8 := by have := hF.len; have := HM.out; omega
  have hqm : q.length = m := by have := hF.qlen; have := HM.out; omega
  rw [hqm] at hO
  have hn1 := hF.ok.n1
  have hn8 := hF.ok.n8
  have hvl : vm ≤ 14 := by have := hF.ok.len; have := HVM.out; omega
  have HFA := Lib.hid hF
  obtain ⟨g1, c1, rfl, hlo⟩ := own_pos hO.1 (by omega)
  rw [World.size_alloc] at hO
  rw [World.size_alloc] at hlo
  have HO := Lib.hid hO
  have hg1 := (hO.lt g1 rfl).2.2
  clear hF hO
  go_wp2_with fail
  obtain ⟨i0, hi, hz0, hz1, hz2⟩ := info_parts infoI
  have HI := Lib.hid hi; have HZ0 := Lib.hid hz0; have HZ1 := Lib.hid hz1; have HZ2 := Lib.hid hz2
  clear hi hz0 hz1 hz2
  have hsz := BW.out.size
  have HR0 : Hid ((w1.alloc (.cells #[.int .i64 a] 3)).ownsRow (w.heap.size + 1) 3 1 (.slice (some ⟨w1.heap.size, 0, none⟩) 1 1) 1 (([a] : List Int).map (Value.int .i64))) := Lib.hid (own_lit1 (box_new _ _ _) G_4)
  have HB0 : Hid (Below w.heap.size w (w1.alloc (.cells #[.int .i64 a] 3))) := Lib.hid (BW.out.alloc hsz _)
  have HG0 := Lib.hid (G.out.alloc (.cells #[.int .i64 a] 3))
  have HO0 : Hid ((w1.alloc (.cells #[.int .i64 a] 3)).ownsRow w.heap.size 3 1 (.slice (some ⟨g1, 0, none⟩) (m + 1) c1) (m + 1) ((a :: q).map (Value.int .i64))) := Lib.hid ((HO.out.mono (by omega) (Nat.le_refl _)).1.alloc _)
  have hne : ¬ w1.heap.size = g1 := by omega
  clear G_0 G_1 G_2 G_3 G_4 hsz BW G HO hlo
  go_loopw [9, 10] (fun ov i wr => ∃ (k g c : Nat), k ≤ m ∧ i = .int .i64 k ∧ ov = .slice (some ⟨g, 0, none⟩) ((stkPath n ls a (s.take k)).length + 1) c ∧ wr.ownsRow (w.heap.size + 1) 3 1 ov ((stkPath n ls a (s.take k)).length + 1) ((a :: stkPath n ls a (s.take k)).map (Value.int .i64)) ∧ ¬ g = g1 ∧ wr.ownsRow w.heap.size 3 1 (.slice (some ⟨g1, 0, none⟩) (m + 1) c1) (m + 1) ((a :: q).map (Value.int .i64)) ∧ Below w.heap.size w wr ∧ Box wr w.heap.size #[.int .i64 n, .slice va vm vcap] 25) (fun _ i _ => m - (intOf i).toNat)
  case atStart => exact ⟨0, w1.heap.size, 1, Nat.zero_le _, rfl, rfl, HR0.out, hne, HO0.out, HB0.out, HG0.out⟩
  case round =>
    obtain ⟨k, g, c, hk, rfl, rfl, hR, hgg, hO, hB, hG⟩ := hrel
    clear HR0 HB0 HG0 HO0
    obtain ⟨p, hp⟩ : ∃ p, stkPath n ls a (s.take k) = p := ⟨_, rfl⟩
    have hpl : p.length ≤ 64 := by
      have h1 := stkPath_len n ls hn8 (s.take k) a
      rw [hp, List.length_take] at h1
      omega
    have HP := Lib.hid hp
    rw [hp] at hR ⊢
    have HR := Lib.hid hR; have HO := Lib.hid hO; have HB := Lib.hid hB; have HGX := Lib.hid hG
    clear hp hR
    by_cases hkm : k < m
    · obtain ⟨⟨lk, lx⟩, hx⟩ := at_lt HM.out hkm
      have hua := HUA.out (by omega)
      subst hua
      obtain ⟨d0, d1⟩ := HUC.out k lk lx hx
      have hbd := cell_lt d0
      have e0 := cell_below hB d0 hbd
      have e1 := cell_below hB d1 hbd
      obtain ⟨x, y, hA⟩ := stk_at HFA.out.ok HFA.out.nd HFA.out.run hx
      obtain ⟨r0, _⟩ := own_at hO hA.at_
      obtain ⟨r1, _⟩ := own_at hO (show (a :: q)[k + 1]? = some y by simpa using hA.next)
      have hkI : (k:Int) < (m:Int) := by omega
      have hkI3 : (k:Int) < (m:Int) + 1 := by omega
      have hk0 : (0:Int) ≤ (k:Int) := by omega
      have hk01 : (0:Int) ≤ (k:Int) + 1 := by omega
      have hkk : ((k:Int) + 1).toNat = k + 1 := by omega
      have w3 : IntKind.i64.wrap ((k:Int) + 1) = (k:Int) + 1 := IntWalk.i64_in _ (by omega)
      have HAT := Lib.hid hA
      clear hx hA hB hO
      go_wp2_with fail
      have hubw : ub < w.heap.size := hbd
      have BX := Lib.hid HB.out.drew
      have GX := Lib.hid HGX.out.drew
      obtain ⟨G_0, G_1, G_2, G_3, G_4⟩ := box2 hG
      clear hG
      have HB1 : Hid (Below wr.heap.size wr wr.drew) := Lib.hid (Below.refl _ _).drew
      refine wp_region_noPanic ?_
      refine wp_region_held_drew (S := (fun w' => w'.cell? ⟨w.heap.size, 0, none⟩ = some (.int .i64 n) ∧ w'.cell? ⟨w.heap.size, 1, none⟩ = some (.slice va vm vcap) ∧ w'.cell? ⟨g1, k, none⟩ = some (.int .i64 x) ∧ w'.cell? ⟨g1, k + 1, none⟩ = some (.int .i64 y) ∧ w'.cell? ⟨ub, uoff + k * 2, none⟩ = some (.int .i64 lk) ∧ w'.cell? ⟨ub, uoff + k * 2 + 1, none⟩ = some (.int .i64 lx))) (by kernel_rfl) (by ((try dsimp only); (first | go_keep | exact ⟨G_0, G_1, r0, r1, e0, e1⟩))) (fun hHeld => ?_)
      refine wpAnyH_take (i := 0) (oi := _) (v := ?_) rfl (by kernel_rfl) (by kernel_rfl) (by kernel_rfl) (fun _ _ _ h => h) (Or.inl ⟨by rfl, ?_⟩) (by assumption) ?_
      rotate_left
      focus (intro w hSw; (try dsimp only at hSw); go_simp; try (with_reducible rfl))
      try simp only [List.getElem_toArray, List.getElem_cons_zero, List.getElem_cons_succ, Act.put, List.setIfInBounds_toArray, List.set_cons_zero, List.set_cons_succ]
      refine wpAnyH_take (i := 1) (oi := _) (v := ?_) rfl (by kernel_rfl) (by kernel_rfl) (by kernel_rfl) (fun _ _ _ h => h) (Or.inl ⟨by rfl, ?_⟩) (by assumption) ?_
      rotate_left
      focus (intro w hSw; (try dsimp only at hSw); go_simp; try (with_reducible rfl))
      try simp only [List.getElem_toArray, List.getElem_cons_zero, List.getElem_cons_succ, Act.put, List.setIfInBounds_toArray, List.set_cons_zero, List.set_cons_succ]
      refine wpAnyH_take (i := 2) (oi := _) (v := ?_) rfl (by kernel_rfl) (by kernel_rfl) (by kernel_rfl) (fun _ _ _ h => h) (Or.inl ⟨by rfl, ?_⟩) (by assumption) ?_
      rotate_left
      focus (intro w hSw; (try dsimp only at hSw); go_simp; try (with_reducible rfl))
      try simp only [List.getElem_toArray, List.getElem_cons_zero, List.getElem_cons_succ, Act.put, List.setIfInBounds_toArray, List.set_cons_zero, List.set_cons_succ]
      refine wpAnyH_take (i := 3) (oi := _) (v := ?_) rfl (by kernel_rfl) (by kernel_rfl) (by kernel_rfl) (fun _ _ _ h => h) (Or.inl ⟨by rfl, ?_⟩) (by assumption) ?_
      rotate_left
      focus (intro w hSw; (try dsimp only at hSw); go_simp; try (with_reducible rfl))
      try simp only [List.getElem_toArray, List.getElem_cons_zero, List.getElem_cons_succ, Act.put, List.setIfInBounds_toArray, List.set_cons_zero, List.set_cons_succ]
      refine wpAnyH_take (i := 4) (oi := _) (v := ?_) rfl (by kernel_rfl) (by kernel_rfl) (by kernel_rfl) (fun _ _ _ h => h) (Or.inl ⟨by rfl, ?_⟩) (by assumption) ?_
      rotate_left
      focus (intro w hSw; (try dsimp only at hSw); go_simp; try (with_reducible rfl))
      try simp only [List.getElem_toArray, List.getElem_cons_zero, List.getElem_cons_succ, Act.put, List.setIfInBounds_toArray, List.set_cons_zero, List.set_cons_succ]
      refine wpAnyH_take (i := 5) (oi := _) (v := ?_) rfl (by kernel_rfl) (by kernel_rfl) (by kernel_rfl) (fun _ _ _ h => h) (Or.inl ⟨by rfl, ?_⟩) (by assumption) ?_
      rotate_left
      focus (intro w hSw; (try dsimp only at hSw); go_simp; try (with_reducible rfl))
      try simp only [List.getElem_toArray, List.getElem_cons_zero, List.getElem_cons_succ, Act.put, List.setIfInBounds_toArray, List.set_cons_zero, List.set_cons_succ]
      refine wpAnyH_take (i := 6) (oi := _) (v := ?_) rfl (by kernel_rfl) (by kernel_rfl) (by kernel_rfl) (fun _ _ _ h => h) (Or.inl ⟨by rfl, ?_⟩) (by assumption) ?_
      rotate_left
      focus (intro w hSw; (try dsimp only at hSw); go_simp; try (with_reducible rfl))
      try simp only [List.getElem_toArray, List.getElem_cons_zero, List.getElem_cons_succ, Act.put, List.setIfInBounds_toArray, List.set_cons_zero, List.set_cons_succ]
      refine wpAnyH_take (i := 7) (oi := _) (v := ?_) rfl (by kernel_rfl) (by kernel_rfl) (by kernel_rfl) (fun _ _ _ h => h) (Or.inl ⟨by rfl, ?_⟩) (by assumption) ?_
      rotate_left
      focus (intro w hSw; (try dsimp only at hSw); go_simp; try (with_reducible rfl))
      try simp only [List.getElem_toArray, List.getElem_cons_zero, List.getElem_cons_succ, Act.put, List.setIfInBounds_toArray, List.set_cons_zero, List.set_cons_succ]
      refine wpAnyH_take (i := 8) (oi := _) (v := ?_) rfl (by kernel_rfl) (by kernel_rfl) (by kernel_rfl) (fun _ _ _ h => h) (Or.inl ⟨by rfl, ?_⟩) (by assumption) ?_
      rotate_left
      focus (intro w hSw; (try dsimp only at hSw); go_simp; try (with_reducible rfl))
      try simp only [List.getElem_toArray, List.getElem_cons_zero, List.getElem_cons_succ, Act.put, List.setIfInBounds_toArray, List.set_cons_zero, List.set_cons_succ]
      refine wpAnyH_take (i := 9) (oi := _) (v := ?_) rfl (by kernel_rfl) (by kernel_rfl) (by kernel_rfl) (fun _ _ _ h => h) (Or.inl ⟨by rfl, ?_⟩) (by assumption) ?_
      rotate_left
      focus (intro w hSw; (try dsimp only at hSw); go_simp; try (with_reducible rfl))
      try simp only [List.getElem_toArray, List.getElem_cons_zero, List.getElem_cons_succ, Act.put, List.setIfInBounds_toArray, List.set_cons_zero, List.set_cons_succ]
      refine wpAnyH_take (i := 10) (oi := _) (v := ?_) rfl (by kernel_rfl) (by kernel_rfl) (by kernel_rfl) (fun _ _ _ h => h) (Or.inl ⟨by rfl, ?_⟩) (by assumption) ?_
      rotate_left
      focus (intro w hSw; (try dsimp only at hSw); go_simp; try (with_reducible rfl))
      try simp only [List.getElem_toArray, List.getElem_cons_zero, List.getElem_cons_succ, Act.put, List.setIfInBounds_toArray, List.set_cons_zero, List.set_cons_succ]
      refine wpAnyH_take (i := 11) (oi := _) (v := ?_) rfl (by kernel_rfl) (by kernel_rfl) (by kernel_rfl) (fun _ _ _ h => h) (Or.inl ⟨by rfl, ?_⟩) (by assumption) ?_
      rotate_left
      focus (intro w hSw; (try dsimp only at hSw); go_simp; try (with_reducible rfl))
      try simp only [List.getElem_toArray, List.getElem_cons_zero, List.getElem_cons_succ, Act.put, List.setIfInBounds_toArray, List.set_cons_zero, List.set_cons_succ]
      refine wpAnyH_take (i := 12) (oi := _) (v := ?_) rfl (by kernel_rfl) (by kernel_rfl) (by kernel_rfl) (fun _ _ _ h => h) (Or.inl ⟨by rfl, ?_⟩) (by assumption) ?_
      rotate_left
      focus (intro w hSw; (try dsimp only at hSw); go_simp; try (with_reducible rfl))
      try simp only [List.getElem_toArray, List.getElem_cons_zero, List.getElem_cons_succ, Act.put, List.setIfInBounds_toArray, List.set_cons_zero, List.set_cons_succ]
      refine wpAnyH_take (i := 13) (oi := _) (v := ?_) rfl (by kernel_rfl) (by kernel_rfl) (by kernel_rfl) (fun _ _ _ h => h) (Or.inl ⟨by rfl, ?_⟩) (by assumption) ?_
      rotate_left
      focus (intro w hSw; (try dsimp only at hSw); go_simp; try (with_reducible rfl))
      try simp only [List.getElem_toArray, List.getElem_cons_zero, List.getElem_cons_succ, Act.put, List.setIfInBounds_toArray, List.set_cons_zero, List.set_cons_succ]
      refine wpAnyH_take (i := 14) (oi := _) (v := ?_) rfl (by kernel_rfl) (by kernel_rfl) (by kernel_rfl) (fun _ _ _ h => h) (Or.inl ⟨by rfl, ?_⟩) (by assumption) ?_
      rotate_left
      focus (intro w hSw; (try dsimp only at hSw); go_simp; try (with_reducible rfl))
      try simp only [List.getElem_toArray, List.getElem_cons_zero, List.getElem_cons_succ, Act.put, List.setIfInBounds_toArray, List.set_cons_zero, List.set_cons_succ]
      refine wpAnyH_ready (rs := [15]) (by kernel_rfl) (by simp) ?_
      refine AllReadyH.cons (o := _) rfl (fun K hK => ?_) AllReadyH.nil
      go_simp
      (go_at_call 41; refine (sPart n ls x y lk lx _ _ (HV.out.below BX.out (Nat.le_refl _)) HFA.out.ok HAT.out.ndx HAT.out.hop).mono ?_; rintro e w2 ⟨A2, c2, rfl, hS2, hb⟩; replace r0 := cell_below hb r0 (cell_lt r0); replace r1 := cell_below hb r1 (cell_lt r1); replace e0 := cell_below hb e0 (cell_lt e0); replace e1 := cell_below hb e1 (cell_lt e1); replace BX := Lib.hid (BX.out.trans (hb.mono BX.out.size)); replace GX := Lib.hid (GX.out.below hb GX.out.lt); clear G_0 G_1 G_2 G_3 G_4; obtain ⟨G_0, G_1, G_2, G_3, G_4⟩ := box2 GX.out; obtain ⟨SP, hSPe⟩ : ∃ SP, segL n ls x (lk, lx) = SP := ⟨_, rfl⟩; have HSEG := Lib.hid hSPe; rw [hSPe] at hS2 ⊢; have hspl : SP.length ≤ 8 := (by rw [← hSPe]; exact segL_len n ls x (lk, lx) hn8); have HS2 := Lib.hid hS2; have HR2 := Lib.hid (((OwnR.of HR.out).below (HB1.out.trans (hb.mono HB1.out.size)) (Nat.le_refl _)).1); have HO2 := Lib.hid (((OwnR.of HO.out).below (HB1.out.trans (hb.mono HB1.out.size)) (Nat.le_refl _)).1); have hs3 := BX.out.size; have hws := GX.out.lt; clear hb hS2 hSPe)
      refine hK.out _ _ (by ((try dsimp only); (first | go_keep | exact ⟨G_0, G_1, r0, r1, e0, e1⟩))) (fun hHeld => ?_)
      clear hK K
      try simp only [List.getElem_toArray, List.getElem_cons_zero, List.getElem_cons_succ, Act.put, List.setIfInBounds_toArray, List.set_cons_zero, List.set_cons_succ]
      refine wpAnyH_ready (rs := [16]) (by kernel_rfl) (by simp) ?_
      refine AllReadyH.cons (o := _) rfl (fun K hK => ?_) AllReadyH.nil
      (refine step_append_rd (by rfl) _ _ _ (by rfl) (w.heap.size + 1) 3 i0 _ 1 8 Try.underlying29 HI.out HZ0.out HZ1.out HZ2.out rfl (by omega) (.slice (some ⟨g, 0, none⟩) (p.length + 1) c) (p.length + 1) ((a :: p).map (Value.int .i64)) (by rfl) HR2.out A2 SP.length c2 (SP.map (Value.int .i64)) (by rfl) HS2.out ints_one (by unfold maxLen; omega) (by omega) (by omega) ?_; intro v' w4 hown3 hgrow hloc; have hB3 : Below w.heap.size w w4 := Below.grown BX.out hgrow (by omega) (fun j hj => by have := (HR2.out.lt j hj).1; omega); have hO3 : w4.ownsRow w.heap.size 3 1 (.slice (some ⟨g1, 0, none⟩) (m + 1) c1) (m + 1) ((a :: q).map (Value.int .i64)) := HO2.out.kept hgrow (.inr (by simp [Value.ownBlock]; omega)); have hG3 := GX.out.grown hgrow (fun j hj => by have := (HR2.out.lt j hj).1; omega); replace e0 := cell_below hB3 d0 hubw; replace e1 := cell_below hB3 d1 hubw; replace r0 := (own_at hO3 HAT.out.at_).1; replace r1 := (own_at hO3 (show (a :: q)[k + 1]? = some y by simpa using HAT.out.next)).1; clear G_0 G_1 G_2 G_3 G_4; obtain ⟨G_0, G_1, G_2, G_3, G_4⟩ := box2 hG3)
      refine hK.out _ _ (by ((try dsimp only); (first | go_keep | exact ⟨G_0, G_1, r0, r1, e0, e1⟩))) (fun hHeld => ?_)
      clear hK K
      try simp only [List.getElem_toArray, List.getElem_cons_zero, List.getElem_cons_succ, Act.put, List.setIfInBounds_toArray, List.set_cons_zero, List.set_cons_succ]
      refine wpAnyH_take (i := 17) (oi := _) (v := ?_) rfl (by kernel_rfl) (by kernel_rfl) (by kernel_rfl) (fun _ _ _ h => h) (Or.inl ⟨by rfl, ?_⟩) (by assumption) ?_
      rotate_left
      focus (intro w hSw; (try dsimp only at hSw); go_simp; try (with_reducible rfl))
      try simp only [List.getElem_toArray, List.getElem_cons_zero, List.getElem_cons_succ, Act.put, List.setIfInBounds_toArray, List.set_cons_zero, List.set_cons_succ]
      refine wpAnyH_done (by kernel_rfl) ?_ _
      refine NoPanic.normal ?_
      obtain ⟨g3, c4, rfl, hlo3⟩ := own_pos hown3 (by omega)
      have hg3 : ¬ g3 = g1 := by
        have h1 := (HO2.out.lt g1 rfl).2
        rcases hloc with h | h
        · have h2 : g3 = g := by simpa [Value.ownBlock] using h
          omega
        · simp [Value.ownBlock] at h; omega
      have HB3 := Lib.hid hB3; have HR3 := Lib.hid hown3; have HO3 := Lib.hid hO3; have HG3 := Lib.hid hG3
      clear hB3 hgrow hown3 hloc hO3 hG3
      have hK : Hid (stkPath n ls a (s.take (k + 1)) = p ++ SP) := Lib.hid (by rw [HAT.out.path, HP.out, HSEG.out])
      go_wp2_with fail
      go_roundw
      case rel =>
        refine ⟨k + 1, g3, c4, by omega, by go_num, ?_, ?_, hg3, HO3.out, HB3.out, HG3.out⟩
        · rw [hK.out, List.length_append]
          rw [show p.length + 1 + SP.length = p.length + SP.length + 1 by omega]
        · have h1 := HR3.out
          rw [hK.out, List.length_append, ← List.cons_append, List.map_append]
          rw [show p.length + 1 + SP.length = p.length + SP.length + 1 by omega] at h1 ⊢
          exact h1
      case measure => simp [intOf]; omega
    · obtain rfl : k = m := by omega
      go_wp2_with fail
      go_ret
      have hv : stkPV n ls a s = a :: p := by rw [stkPV, HS.out, ← HP.out, List.take_of_length_le (by have := HM.out; omega)]
      rw [MadeInts, hv]
      exact ⟨_, rfl, (OwnR.of HR.out).mono (by omega) (Nat.le_refl _), HB.out⟩
end Go.Proofs.Ytkegainegkdgpaa
