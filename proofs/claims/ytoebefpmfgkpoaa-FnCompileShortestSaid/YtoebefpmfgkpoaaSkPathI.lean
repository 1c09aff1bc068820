/- The nodes of a packet: StackPath of the program: stkPV. -/
import Derived.Test.YtoebefpmfgkpoaaSpI
import Derived.Test.YtoebefpmfgkpoaaStkCost
namespace Go.Proofs.Ytoebefpmfgkpoaa
set_option linter.unusedSimpArgs false
set_option linter.unusedVariables false
open Go.RowKit

def stkPV (n : Int) (ls : List LinkD) (a : Int) (s : List LabelD) : List Int := match stkOf n ls a s with | none => [] | some _ => a :: stkPath n ls a s
theorem segL_len (n : Int) (ls : List LinkD) (a : Int) (l : LabelD) (h8 : n ≤ 8) : (segL n ls a l).length ≤ 8 := by
  unfold segL
  by_cases e : l.1 = 1
  · rw [if_pos e]; have := spG_len n ls a (nextN n ls a l); omega
  · rw [if_neg e]; simp
theorem stkPath_len (n : Int) (ls : List LinkD) (h8 : n ≤ 8) : ∀ (s : List LabelD) (a : Int), (stkPath n ls a s).length ≤ 8 * s.length
  | [], a => by simp [stkPath]
  | l :: s, a => by
    have h1 := segL_len n ls a l h8
    have h2 := stkPath_len n ls h8 s (nextN n ls a l)
    simp only [stkPath, List.length_append, List.length_cons]
    omega
theorem own_lit2 {w : World} {b base : Nat} {x y : Value} {t : TypeId} (h : Box w b #[x, y] t) (hb : base ≤ b) : w.ownsRow base t 1 (.slice (some ⟨b, 0, none⟩) 2 2) 2 [x, y] :=
  ⟨by simp, .inr ⟨b, 2, #[x, y], rfl, hb, h, Nat.le_refl _, by unfold maxLen; omega, by simp, by simp⟩⟩
/-- The row without its first element, as a slice expression gives it. -/
theorem own_tail {w : World} {lo hi g L c : Nat} {x : Int} {SP : List Int} (h : OwnR w lo hi 3 1 (.slice (some ⟨g, 0, none⟩) L c) L ((x :: SP).map (Value.int .i64))) :
    ∃ A2 c3, (∀ W : World, (Instr.slice 26 (.slice (some ⟨g, 0, none⟩) L c) (some (.int .i64 1)) none none).run Try.prog W = .ok (.slice A2 (L - 1) c3) W) ∧ SrcAt w A2 (L - 1) 1 (SP.map (Value.int .i64)) := by
  have hl := h.1.1
  simp at hl
  subst hl
  obtain ⟨A', m', c', ee1, ee2, hs'⟩ := srcAt_ints (own_ints (l := x :: SP) h)
  obtain ⟨_, cap2, _, _, hcf, hlc, hcm, _⟩ := own_ints (l := x :: SP) h
  obtain ⟨i1, hi1, hi2, hi3, hi4⟩ := info_parts infoI
  injection ee1 with q1 q2 q3
  injection hcf with r1 r2 r3
  subst q1
  subst q2
  subst q3
  subst r3
  obtain ⟨A2, c3, hs2, S2⟩ := cut_tail Try.underlying26 hi1 hi3 hs' hlc 1 (by omega)
  exact ⟨A2, c3, hs2, by simpa using S2⟩
set_option maxRecDepth 100000 in
set_option maxHeartbeats 4000000 in
theorem iStackPath (n : Int) (ls : List LinkD) (a : Int) (s : List LabelD) (v u : Value) (w : World) (hv : TriplesAt w v ls) (hu : PairsAt w u s) :
    Calls Try.prog 18 #[.agg #[.int .i64 n, v], .int .i64 a, u] w (MadeInts w (stkPV n ls a s)) := by
  have HV := Lib.hid hv; have HU := Lib.hid hu
  obtain ⟨va, vcap, vb, voff, rfl, hvcap, hvmax, hva, hvc⟩ := hv
  obtain ⟨vm, hvm⟩ : ∃ m, m = ls.length := ⟨_, rfl⟩
  rw [← hvm] at hvcap hva HV ⊢
  have HVM := Lib.hid hvm; have HVC := Lib.hid hvc; have HVA := Lib.hid hva
  clear hvm hvc hva
  obtain ⟨ua, ucap, ub, uoff, rfl, hucap, humax, hua, huc⟩ := hu
  obtain ⟨m, hm⟩ : ∃ m, m = s.length := ⟨_, rfl⟩
  rw [← hm] at hucap hua HU ⊢
  have HM := Lib.hid hm; have HUC := Lib.hid huc; have HUA := Lib.hid hua
  unfold maxLen at humax hvmax
  clear hm huc hua
  go_enter Try.func18, Try.ntmps18
  go_wp2_with fail
  refine (iStk n ls a s _ _ _ (HV.out.below (by with_reducible (repeat (first | (refine below_drewN ?_ _) | (refine Below.drew ?_) | (refine below_alloc ?_ (by first | omega | (simp; done) | (simp; omega)) _) | (refine Below.setCell ?_ (by first | omega | (simp; done) | (simp; omega)) _) | exact Below.refl _ _ | assumption | (refine below_call ?_ (by first | omega | (simp; done) | (simp; omega)) (by assumption))))) (Nat.le_refl _)) (HU.out.below (by with_reducible (repeat (first | (refine below_drewN ?_ _) | (refine Below.drew ?_) | (refine below_alloc ?_ (by first | omega | (simp; done) | (simp; omega)) _) | (refine Below.setCell ?_ (by first | omega | (simp; done) | (simp; omega)) _) | exact Below.refl _ _ | assumption | (refine below_call ?_ (by first | omega | (simp; done) | (simp; omega)) (by assumption))))) (Nat.le_refl _))).mono ?_
  rintro e w1 ⟨hno, hyes, hb⟩
  have G := Lib.hid (Box.call (b := w.heap.size) (c := #[.int .i64 n, .slice va vm vcap]) (t := 25) hb (by with_reducible (repeat (first | (refine box_at _ _ _ ?_; first | rfl | (simp; done)) | apply Box.alloc | apply Box.drewN | apply Box.drew))))
  obtain ⟨G_0, G_1, G_2, G_3, G_4⟩ := box2 G.out
  have BW := Lib.hid (below_call (B := w.heap.size) (a := w) (by with_reducible (repeat (first | (refine below_drewN ?_ _) | (refine Below.drew ?_) | (refine below_alloc ?_ (by first | omega | (simp; done) | (simp; omega)) _) | (refine Below.setCell ?_ (by first | omega | (simp; done) | (simp; omega)) _) | exact Below.refl _ _ | assumption | (refine below_call ?_ (by first | omega | (simp; done) | (simp; omega)) (by assumption))))) (Nat.le_refl _) hb)
  clear hb
  rcases hs : stkOf n ls a s with _ | q
  · obtain ⟨A, m', c, rfl⟩ := hno hs
    clear hno hyes
    have HS := Lib.hid hs
    clear hs
    go_wp2_with fail
    go_ret
    rw [MadeInts, stkPV, HS.out]
    exact ⟨_, rfl, ⟨⟨rfl, .inl ⟨rfl, rfl⟩⟩, fun g hg => by simp [Value.ownBlock] at hg⟩, BW.out⟩
  obtain ⟨v, rfl, hO⟩ := hyes q hs
  clear hno hyes
  have HS := Lib.hid hs
  clear hs
  have hF := stkOf_some HS.out
  have hm8 : m ≤ 8 := by have := hF.len; have := HM.out; omega
  have hqm : q.length = m := by have := hF.qlen; have := HM.out; omega
  rw [hqm] at hO
  have hn1 := hF.ok.n1
  have hn8 := hF.ok.n8
  have hvl : vm ≤ 14 := by have := hF.ok.len; have := HVM.out; omega
  have HFA := Lib.hid hF
  obtain ⟨g1, c1, rfl, hlo⟩ := own_pos hO.1 (by omega)
  rw [World.size_alloc] at hO
  rw [World.size_alloc] at hlo
  have HO := Lib.hid hO
  have hg1 := (hO.lt g1 rfl).2.2
  clear hF hO
  go_wp2_with fail
  obtain ⟨i0, hi, hz0, hz1, hz2⟩ := info_parts infoI
  have HI := Lib.hid hi; have HZ0 := Lib.hid hz0; have HZ1 := Lib.hid hz1; have HZ2 := Lib.hid hz2
  clear hi hz0 hz1 hz2
  have hsz := BW.out.size
  have HR0 : Hid ((w1.alloc (.cells #[.int .i64 a] 3)).ownsRow (w.heap.size + 1) 3 1 (.slice (some ⟨w1.heap.size, 0, none⟩) 1 1) 1 (([a] : List Int).map (Value.int .i64))) := Lib.hid (own_lit1 (box_new _ _ _) G_4)
  have HB0 : Hid (Below w.heap.size w (w1.alloc (.cells #[.int .i64 a] 3))) := Lib.hid (BW.out.alloc hsz _)
  have HG0 := Lib.hid (G.out.alloc (.cells #[.int .i64 a] 3))
  have HO0 : Hid ((w1.alloc (.cells #[.int .i64 a] 3)).ownsRow w.heap.size 3 1 (.slice (some ⟨g1, 0, none⟩) (m + 1) c1) (m + 1) ((a :: q).map (Value.int .i64))) := Lib.hid ((HO.out.mono (by omega) (Nat.le_refl _)).1.alloc _)
  have hne : ¬ w1.heap.size = g1 := by omega
  clear G_0 G_1 G_2 G_3 G_4 hsz BW G HO hlo
  go_loopw [9, 26] (fun ov i wr => ∃ (k g c : Nat), k ≤ m ∧ i = .int .i64 k ∧ ov = .slice (some ⟨g, 0, none⟩) ((stkPath n ls a (s.take k)).length + 1) c ∧ wr.ownsRow (w.heap.size + 1) 3 1 ov ((stkPath n ls a (s.take k)).length + 1) ((a :: stkPath n ls a (s.take k)).map (Value.int .i64)) ∧ ¬ g = g1 ∧ wr.ownsRow w.heap.size 3 1 (.slice (some ⟨g1, 0, none⟩) (m + 1) c1) (m + 1) ((a :: q).map (Value.int .i64)) ∧ Below w.heap.size w wr ∧ Box wr w.heap.size #[.int .i64 n, .slice va vm vcap] 25) (fun _ i _ => m - (intOf i).toNat)
  case atStart => exact ⟨0, w1.heap.size, 1, Nat.zero_le _, rfl, rfl, HR0.out, hne, HO0.out, HB0.out, HG0.out⟩
  case round =>
    obtain ⟨k, g, c, hk, rfl, rfl, hR, hgg, hO, hB, hG⟩ := hrel
    clear HR0 HB0 HG0 HO0
    obtain ⟨p, hp⟩ : ∃ p, stkPath n ls a (s.take k) = p := ⟨_, rfl⟩
    have hpl : p.length ≤ 64 := by
      have h1 := stkPath_len n ls hn8 (s.take k) a
      rw [hp, List.length_take] at h1
      omega
    have HP := Lib.hid hp
    rw [hp] at hR ⊢
    have HR := Lib.hid hR; have HO := Lib.hid hO; have HB := Lib.hid hB; have HGX := Lib.hid hG
    clear hp hR
    by_cases hkm : k < m
    · obtain ⟨⟨lk, lx⟩, hx⟩ := at_lt HM.out hkm
      have hua := HUA.out (by omega)
      subst hua
      obtain ⟨d0, d1⟩ := HUC.out k lk lx hx
      have hbd := cell_lt d0
      have e0 := cell_below hB d0 hbd
      have e1 := cell_below hB d1 hbd
      obtain ⟨x, y, hA⟩ := stk_at HFA.out.ok HFA.out.nd HFA.out.run hx
      obtain ⟨r0, _⟩ := own_at hO hA.at_
      obtain ⟨r1, _⟩ := own_at hO (show (a :: q)[k + 1]? = some y by simpa using hA.next)
      have hkI : (k:Int) < (m:Int) := by omega
      have hkI3 : (k:Int) < (m:Int) + 1 := by omega
      have hk0 : (0:Int) ≤ (k:Int) := by omega
      have hk01 : (0:Int) ≤ (k:Int) + 1 := by omega
      have hkk : ((k:Int) + 1).toNat = k + 1 := by omega
      have w3 : IntKind.i64.wrap ((k:Int) + 1) = (k:Int) + 1 := IntWalk.i64_in _ (by omega)
      have HAT := Lib.hid hA
      clear hx d0 d1 hA hB hO
      by_cases h1 : lk = 1
      · subst h1
        have t1 : ((1:Int) == 1) = true := by simp
        go_wp2_with fail
        have L0 := box_new wr #[.int .i64 1, .int .i64 lx] 56
        have G0 := hG.alloc (.cells #[.int .i64 1, .int .i64 lx] 56)
        have r2 := cell_alloc r0 (.cells #[.int .i64 1, .int .i64 lx] 56)
        have r3 := cell_alloc r1 (.cells #[.int .i64 1, .int .i64 lx] 56)
        have BW0 : Below wr.heap.size wr (wr.alloc (.cells #[.int .i64 1, .int .i64 lx] 56)) := (by with_reducible (repeat (first | (refine below_drewN ?_ _) | (refine Below.drew ?_) | (refine below_alloc ?_ (by first | omega | (simp; done) | (simp; omega)) _) | (refine Below.setCell ?_ (by first | omega | (simp; done) | (simp; omega)) _) | exact Below.refl _ _ | assumption | (refine below_call ?_ (by first | omega | (simp; done) | (simp; omega)) (by assumption)))))
        obtain ⟨W, hW⟩ : ∃ W, wr.alloc (.cells #[.int .i64 1, .int .i64 lx] 56) = W := ⟨_, rfl⟩
        rw [hW] at L0 G0 BW0 r2 r3 ⊢
        have B3 := Lib.hid (HB.out.trans (BW0.mono HB.out.size))
        have B4 := Lib.hid BW0
        clear hW BW0 hG r0 r1
        have hgl2 := cell_lt r2
        obtain ⟨L_0, L_1, L_2, L_3, L_4⟩ := box2 L0
        obtain ⟨G_0, G_1, G_2, G_3, G_4⟩ := box2 G0
        go_region
        go_wp2_with fail
        have r4 : ((W.alloc (.cells #[.int .i64 x, .int .i64 y] 3)).drew).cell? _ = _ := cell_alloc r2 (.cells #[.int .i64 x, .int .i64 y] 3)
        have r5 : ((W.alloc (.cells #[.int .i64 x, .int .i64 y] 3)).drew).cell? _ = _ := cell_alloc r3 (.cells #[.int .i64 x, .int .i64 y] 3)
        have G1 := (G0.alloc (.cells #[.int .i64 x, .int .i64 y] 3)).drew
        have BW1 : Below wr.heap.size wr ((W.alloc (.cells #[.int .i64 x, .int .i64 y] 3)).drew) := by have hB := B4.out; have := hB.size; exact (by with_reducible (repeat (first | (refine below_drewN ?_ _) | (refine Below.drew ?_) | (refine below_alloc ?_ (by first | omega | (simp; done) | (simp; omega)) _) | (refine Below.setCell ?_ (by first | omega | (simp; done) | (simp; omega)) _) | exact Below.refl _ _ | assumption | (refine below_call ?_ (by first | omega | (simp; done) | (simp; omega)) (by assumption)))))
        obtain ⟨X, hX⟩ : ∃ X, (W.alloc (.cells #[.int .i64 x, .int .i64 y] 3)).drew = X := ⟨_, rfl⟩
        rw [hX] at BW1 r4 r5 G1 ⊢
        have BX := Lib.hid BW1
        have BXw := Lib.hid (HB.out.trans (BW1.mono HB.out.size))
        have GX := Lib.hid G1
        clear hX BW1 r2 r3 G0 L0 L_0 L_1 L_2 L_3 L_4 G_0 G_1 G_2 G_3 G_4 B3 B4
        obtain ⟨G_0, G_1, G_2, G_3, G_4⟩ := box2 G1
        clear G1
        have BXd := Lib.hid BX.out.drew
        have BXwd := Lib.hid BXw.out.drew
        have GXd := Lib.hid GX.out.drew
        have hSP : Hid (shP n ls x y = x :: spG n ls x y) := Lib.hid (by
          unfold shP
          rw [if_pos]
          have hh := hop_cases HFA.out.ok HAT.out.hop
          rcases hh with ⟨_, _, _, h4⟩ | ⟨_, _, h1, _⟩
          · rw [HFA.out.ok.dst.symm HFA.out.ok.fits.ok HAT.out.ndy HAT.out.ndx]; exact h4
          · simp at h1)
        refine wp_region_noPanic ?_
        refine wp_region_held_drew (S := (fun w' => w'.cell? ⟨w.heap.size, 0, none⟩ = some (.int .i64 n) ∧ w'.cell? ⟨w.heap.size, 1, none⟩ = some (.slice va vm vcap) ∧ w'.cell? ⟨g1, k, none⟩ = some (.int .i64 x) ∧ w'.cell? ⟨g1, k + 1, none⟩ = some (.int .i64 y))) (by kernel_rfl) (by ((try dsimp only); (first | go_keep | exact ⟨G_0, G_1, r4, r5⟩))) (fun hHeld => ?_)
        refine wpAnyH_take (i := 0) (oi := _) (v := ?_) rfl (by kernel_rfl) (by kernel_rfl) (by kernel_rfl) (fun _ _ _ h => h) (Or.inl ⟨by rfl, ?_⟩) (by assumption) ?_
        rotate_left
        focus (intro w hSw; (try dsimp only at hSw); go_simp; try (with_reducible rfl))
        try simp only [List.getElem_toArray, List.getElem_cons_zero, List.getElem_cons_succ, Act.put, List.setIfInBounds_toArray, List.set_cons_zero, List.set_cons_succ]
        refine wpAnyH_take (i := 1) (oi := _) (v := ?_) rfl (by kernel_rfl) (by kernel_rfl) (by kernel_rfl) (fun _ _ _ h => h) (Or.inl ⟨by rfl, ?_⟩) (by assumption) ?_
        rotate_left
        focus (intro w hSw; (try dsimp only at hSw); go_simp; try (with_reducible rfl))
        try simp only [List.getElem_toArray, List.getElem_cons_zero, List.getElem_cons_succ, Act.put, List.setIfInBounds_toArray, List.set_cons_zero, List.set_cons_succ]
        refine wpAnyH_take (i := 2) (oi := _) (v := ?_) rfl (by kernel_rfl) (by kernel_rfl) (by kernel_rfl) (fun _ _ _ h => h) (Or.inl ⟨by rfl, ?_⟩) (by assumption) ?_
        rotate_left
        focus (intro w hSw; (try dsimp only at hSw); go_simp; try (with_reducible rfl))
        try simp only [List.getElem_toArray, List.getElem_cons_zero, List.getElem_cons_succ, Act.put, List.setIfInBounds_toArray, List.set_cons_zero, List.set_cons_succ]
        refine wpAnyH_take (i := 3) (oi := _) (v := ?_) rfl (by kernel_rfl) (by kernel_rfl) (by kernel_rfl) (fun _ _ _ h => h) (Or.inl ⟨by rfl, ?_⟩) (by assumption) ?_
        rotate_left
        focus (intro w hSw; (try dsimp only at hSw); go_simp; try (with_reducible rfl))
        try simp only [List.getElem_toArray, List.getElem_cons_zero, List.getElem_cons_succ, Act.put, List.setIfInBounds_toArray, List.set_cons_zero, List.set_cons_succ]
        refine wpAnyH_take (i := 4) (oi := _) (v := ?_) rfl (by kernel_rfl) (by kernel_rfl) (by kernel_rfl) (fun _ _ _ h => h) (Or.inl ⟨by rfl, ?_⟩) (by assumption) ?_
        rotate_left
        focus (intro w hSw; (try dsimp only at hSw); go_simp; try (with_reducible rfl))
        try simp only [List.getElem_toArray, List.getElem_cons_zero, List.getElem_cons_succ, Act.put, List.setIfInBounds_toArray, List.set_cons_zero, List.set_cons_succ]
        refine wpAnyH_take (i := 5) (oi := _) (v := ?_) rfl (by kernel_rfl) (by kernel_rfl) (by kernel_rfl) (fun _ _ _ h => h) (Or.inl ⟨by rfl, ?_⟩) (by assumption) ?_
        rotate_left
        focus (intro w hSw; (try dsimp only at hSw); go_simp; try (with_reducible rfl))
        try simp only [List.getElem_toArray, List.getElem_cons_zero, List.getElem_cons_succ, Act.put, List.setIfInBounds_toArray, List.set_cons_zero, List.set_cons_succ]
        refine wpAnyH_take (i := 6) (oi := _) (v := ?_) rfl (by kernel_rfl) (by kernel_rfl) (by kernel_rfl) (fun _ _ _ h => h) (Or.inl ⟨by rfl, ?_⟩) (by assumption) ?_
        rotate_left
        focus (intro w hSw; (try dsimp only at hSw); go_simp; try (with_reducible rfl))
        try simp only [List.getElem_toArray, List.getElem_cons_zero, List.getElem_cons_succ, Act.put, List.setIfInBounds_toArray, List.set_cons_zero, List.set_cons_succ]
        refine wpAnyH_take (i := 7) (oi := _) (v := ?_) rfl (by kernel_rfl) (by kernel_rfl) (by kernel_rfl) (fun _ _ _ h => h) (Or.inl ⟨by rfl, ?_⟩) (by assumption) ?_
        rotate_left
        focus (intro w hSw; (try dsimp only at hSw); go_simp; try (with_reducible rfl))
        try simp only [List.getElem_toArray, List.getElem_cons_zero, List.getElem_cons_succ, Act.put, List.setIfInBounds_toArray, List.set_cons_zero, List.set_cons_succ]
        refine wpAnyH_take (i := 8) (oi := _) (v := ?_) rfl (by kernel_rfl) (by kernel_rfl) (by kernel_rfl) (fun _ _ _ h => h) (Or.inl ⟨by rfl, ?_⟩) (by assumption) ?_
        rotate_left
        focus (intro w hSw; (try dsimp only at hSw); go_simp; try (with_reducible rfl))
        try simp only [List.getElem_toArray, List.getElem_cons_zero, List.getElem_cons_succ, Act.put, List.setIfInBounds_toArray, List.set_cons_zero, List.set_cons_succ]
        refine wpAnyH_take (i := 9) (oi := _) (v := ?_) rfl (by kernel_rfl) (by kernel_rfl) (by kernel_rfl) (fun _ _ _ h => h) (Or.inl ⟨by rfl, ?_⟩) (by assumption) ?_
        rotate_left
        focus (intro w hSw; (try dsimp only at hSw); go_simp; try (with_reducible rfl))
        try simp only [List.getElem_toArray, List.getElem_cons_zero, List.getElem_cons_succ, Act.put, List.setIfInBounds_toArray, List.set_cons_zero, List.set_cons_succ]
        refine wpAnyH_ready (rs := [10]) (by kernel_rfl) (by simp) ?_
        refine AllReadyH.cons (o := _) rfl (fun K hK => ?_) AllReadyH.nil
        go_simp
        (go_at_call 47; refine (iPath n ls x y _ _ (HV.out.below BXwd.out (Nat.le_refl _)) HFA.out.ok HAT.out.ndx HAT.out.ndy).mono ?_; rintro e w2 ⟨v2, rfl, hO2, hb⟩; rw [hSP.out] at hO2; obtain ⟨g2, c2, hgc, hlo2⟩ := own_pos hO2.1 (by simp); subst hgc; replace r4 := cell_below hb r4 (cell_lt r4); replace r5 := cell_below hb r5 (cell_lt r5); replace BX := Lib.hid (BX.out.drew.trans (hb.mono BX.out.drew.size)); replace BXw := Lib.hid (BXw.out.drew.trans (hb.mono BXw.out.drew.size)); replace GX := Lib.hid (GX.out.drew.below hb GX.out.drew.lt); clear G_0 G_1 G_2 G_3 G_4; obtain ⟨G_0, G_1, G_2, G_3, G_4⟩ := box2 GX.out; have O2 := Lib.hid hO2; clear hO2 hb BXd BXwd GXd)
        refine hK.out _ _ (by ((try dsimp only); (first | go_keep | exact ⟨G_0, G_1, r4, r5⟩))) (fun hHeld => ?_)
        clear hK K
        try simp only [List.getElem_toArray, List.getElem_cons_zero, List.getElem_cons_succ, Act.put, List.setIfInBounds_toArray, List.set_cons_zero, List.set_cons_succ]
        refine wpAnyH_take (i := 11) (oi := _) (v := ?_) rfl (by kernel_rfl) (by kernel_rfl) (by kernel_rfl) (fun _ _ _ h => h) (Or.inl ⟨by rfl, ?_⟩) (by assumption) ?_
        rotate_left
        focus (intro w hSw; (try dsimp only at hSw); go_simp; try (with_reducible rfl))
        try simp only [List.getElem_toArray, List.getElem_cons_zero, List.getElem_cons_succ, Act.put, List.setIfInBounds_toArray, List.set_cons_zero, List.set_cons_succ]
        refine wpAnyH_done (by kernel_rfl) ?_ _
        refine NoPanic.normal ?_
        clear r4 r5 G_0 G_1 G_2 G_3 G_4 hHeld
        obtain ⟨SP, hSPe⟩ : ∃ SP, spG n ls x y = SP := ⟨_, rfl⟩
        have hspl : SP.length ≤ 8 := by have := spG_len n ls x y; rw [hSPe] at this; omega
        have HSEG : Hid (segL n ls x (1, lx) = SP) := Lib.hid (by unfold segL; rw [if_pos rfl, nextN_of HAT.out.hop, hSPe])
        rw [hSPe] at O2 ⊢
        replace O2 : Hid (OwnR w2 _ w2.heap.size 3 1 (.slice (some ⟨g2, 0, none⟩) (SP.length + 1) c2) (SP.length + 1) ((x :: SP).map (Value.int .i64))) := O2
        try simp only [List.length_cons]
        obtain ⟨L, hL⟩ : ∃ L, SP.length + 1 = L := ⟨_, rfl⟩
        have HL2 : Hid (L = SP.length + 1) := Lib.hid hL.symm
        have hL8 : L ≤ 9 := by have := HL2.out; omega
        rw [hL] at O2 ⊢
        obtain ⟨A2, c3, hs2, S2⟩ := own_tail O2.out
        have HS2 := Lib.hid S2
        have HR2 := Lib.hid (((OwnR.of HR.out).below BX.out (Nat.le_refl _)).1)
        have HO2 := Lib.hid (((OwnR.of HO.out).below BX.out (Nat.le_refl _)).1)
        have hs3 := BXw.out.size
        have hws := GX.out.lt
        have hL1 : (1:Int) ≤ (L:Int) := by have := HL2.out; omega
        clear S2 hL O2 hSPe BX
        go_wp2_with (at_builtin; go_loud (refine wpList_append_rd rfl _ _ _ rfl (w.heap.size + 1) 3 i0 _ 1 8 Try.underlying26 HI.out HZ0.out HZ1.out HZ2.out rfl (by omega) (.slice (some ⟨g, 0, none⟩) (p.length + 1) c) (p.length + 1) ((a :: p).map (Value.int .i64)) rfl (by with_reducible (repeat (first | exact HR2.out | apply own_drewN | apply own_drew | apply World.ownsRow.alloc | (refine own_setCell ?_ (by first | (simp; done) | omega | (simp; omega)) _)))) A2 (L - 1) c3 (SP.map (Value.int .i64)) rfl (HS2.out.below (by with_reducible (repeat (first | (refine below_drewN ?_ _) | (refine Below.drew ?_) | (refine below_alloc ?_ (by first | omega | (simp; done) | (simp; omega)) _) | (refine Below.setCell ?_ (by first | omega | (simp; done) | (simp; omega)) _) | exact Below.refl _ _ | assumption | (refine below_call ?_ (by first | omega | (simp; done) | (simp; omega)) (by assumption))))) (Nat.le_refl _)) ints_one (by unfold maxLen; omega) (by omega) (by omega) ?_); intro v' w4 hown3 hgrow hloc)
        have hB3 : Below w.heap.size w w4 := Below.grown (by have := BXw.out; exact (by with_reducible (repeat (first | (refine below_drewN ?_ _) | (refine Below.drew ?_) | (refine below_alloc ?_ (by first | omega | (simp; done) | (simp; omega)) _) | (refine Below.setCell ?_ (by first | omega | (simp; done) | (simp; omega)) _) | exact Below.refl _ _ | assumption | (refine below_call ?_ (by first | omega | (simp; done) | (simp; omega)) (by assumption)))))) hgrow (by omega) (fun j hj => by have := (HR2.out.lt j hj).1; omega)
        have hO3 : w4.ownsRow w.heap.size 3 1 (.slice (some ⟨g1, 0, none⟩) (m + 1) c1) (m + 1) ((a :: q).map (Value.int .i64)) := HO2.out.kept hgrow (.inr (by simp [Value.ownBlock]; omega))
        have hG3 := GX.out.grown hgrow (fun j hj => by have := (HR2.out.lt j hj).1; omega)
        obtain ⟨g3, c4, rfl, hlo3⟩ := own_pos hown3 (by omega)
        have hg3 : ¬ g3 = g1 := by
          have h1 := (HO2.out.lt g1 rfl).2
          rcases hloc with h | h
          · have h2 : g3 = g := by simpa [Value.ownBlock] using h
            omega
          · simp [Value.ownBlock] at h; omega
        have HB3 := Lib.hid hB3; have HR3 := Lib.hid hown3; have HO3 := Lib.hid hO3; have HG3 := Lib.hid hG3
        clear hB3 hgrow hown3 hloc hO3 hG3
        have hK : Hid (stkPath n ls a (s.take (k + 1)) = p ++ SP) := Lib.hid (by rw [HAT.out.path, HP.out, HSEG.out])
        go_wp2_with fail
        go_roundw
        case rel =>
          refine ⟨k + 1, g3, c4, by omega, by go_num, ?_, ?_, hg3, HO3.out, HB3.out, HG3.out⟩
          · rw [hK.out, List.length_append]
            have := HL2.out
            rw [show p.length + 1 + (L - 1) = p.length + SP.length + 1 by omega]
          · have h1 := HR3.out
            have := HL2.out
            rw [hK.out, List.length_append, ← List.cons_append, List.map_append]
            rw [show p.length + 1 + (L - 1) = p.length + SP.length + 1 by omega] at h1 ⊢
            exact h1
        case measure => simp [intOf]; omega
      · have t1 : (lk == 1) = false := by simpa using h1
        obtain rfl : lk = 2 := by
          rcases hop_cases HFA.out.ok HAT.out.hop with h2 | ⟨_, _, h2, _⟩
          · exact absurd h2.1 h1
          · exact h2
        clear h1
        go_wp2_with fail
        have L0 := box_new wr #[.int .i64 2, .int .i64 lx] 56
        have G0 := hG.alloc (.cells #[.int .i64 2, .int .i64 lx] 56)
        have r2 := cell_alloc r0 (.cells #[.int .i64 2, .int .i64 lx] 56)
        have r3 := cell_alloc r1 (.cells #[.int .i64 2, .int .i64 lx] 56)
        have BW0 : Below wr.heap.size wr (wr.alloc (.cells #[.int .i64 2, .int .i64 lx] 56)) := (by with_reducible (repeat (first | (refine below_drewN ?_ _) | (refine Below.drew ?_) | (refine below_alloc ?_ (by first | omega | (simp; done) | (simp; omega)) _) | (refine Below.setCell ?_ (by first | omega | (simp; done) | (simp; omega)) _) | exact Below.refl _ _ | assumption | (refine below_call ?_ (by first | omega | (simp; done) | (simp; omega)) (by assumption)))))
        obtain ⟨W, hW⟩ : ∃ W, wr.alloc (.cells #[.int .i64 2, .int .i64 lx] 56) = W := ⟨_, rfl⟩
        rw [hW] at L0 G0 BW0 r2 r3 ⊢
        have B3 := Lib.hid (HB.out.trans (BW0.mono HB.out.size))
        have B4 := Lib.hid BW0
        clear hW BW0 hG r0 r1
        have hgl2 := cell_lt r2
        obtain ⟨L_0, L_1, L_2, L_3, L_4⟩ := box2 L0
        obtain ⟨G_0, G_1, G_2, G_3, G_4⟩ := box2 G0
        go_region
        have P0 := (own_lit2 (base := w.heap.size + 1) (box_new W #[.int .i64 x, .int .i64 y] 3) (by have := B3.out.size; omega))
        have G1 := (G0.alloc (.cells #[.int .i64 x, .int .i64 y] 3)).drew
        have BW1 : Below wr.heap.size wr ((W.alloc (.cells #[.int .i64 x, .int .i64 y] 3)).drew) := by have hB := B4.out; have := hB.size; exact (by with_reducible (repeat (first | (refine below_drewN ?_ _) | (refine Below.drew ?_) | (refine below_alloc ?_ (by first | omega | (simp; done) | (simp; omega)) _) | (refine Below.setCell ?_ (by first | omega | (simp; done) | (simp; omega)) _) | exact Below.refl _ _ | assumption | (refine below_call ?_ (by first | omega | (simp; done) | (simp; omega)) (by assumption)))))
        have L1 := (L0.alloc (.cells #[.int .i64 x, .int .i64 y] 3)).drew
        replace P0 : ((W.alloc (.cells #[.int .i64 x, .int .i64 y] 3)).drew).ownsRow (w.heap.size + 1) 3 1 (.slice (some ⟨W.heap.size, 0, none⟩) 2 2) 2 (([x, y] : List Int).map (Value.int .i64)) := own_drew P0
        obtain ⟨w2, hX⟩ : ∃ X, (W.alloc (.cells #[.int .i64 x, .int .i64 y] 3)).drew = X := ⟨_, rfl⟩
        obtain ⟨g2, hg2⟩ : ∃ g2, W.heap.size = g2 := ⟨_, rfl⟩
        clear L_0 L_1 L_2 L_3 L_4 G_0 G_1 G_2 G_3 G_4 r2 r3
        rw [hX] at BW1 P0 G1 L1 ⊢
        rw [hg2] at P0 ⊢
        obtain ⟨A2, c3, hs2, S2⟩ := own_tail (OwnR.of P0)
        have HS2 := Lib.hid S2
        have BX := Lib.hid BW1
        have BXw := Lib.hid (HB.out.trans (BW1.mono HB.out.size))
        have GX := Lib.hid G1
        obtain ⟨L_0, L_1, L_2, L_3, L_4⟩ := box2 L1
        have HR2 := Lib.hid (((OwnR.of HR.out).below BX.out (Nat.le_refl _)).1)
        have HO2 := Lib.hid (((OwnR.of HO.out).below BX.out (Nat.le_refl _)).1)
        have HSEG : Hid (segL n ls x (2, lx) = [y]) := Lib.hid (by unfold segL; rw [if_neg (by simp), nextN_of HAT.out.hop])
        have hs3 := BXw.out.size
        have hws := GX.out.lt
        clear hX hg2 P0 S2 G1 L1 BW1 B3 B4 L0 G0 hgl2
        go_wp2_with (at_builtin; go_loud (refine wpList_append_rd rfl _ _ _ rfl (w.heap.size + 1) 3 i0 _ 1 8 Try.underlying26 HI.out HZ0.out HZ1.out HZ2.out rfl (by omega) (.slice (some ⟨g, 0, none⟩) (p.length + 1) c) (p.length + 1) ((a :: p).map (Value.int .i64)) rfl (by with_reducible (repeat (first | exact HR2.out | apply own_drewN | apply own_drew | apply World.ownsRow.alloc | (refine own_setCell ?_ (by first | (simp; done) | omega | (simp; omega)) _)))) A2 1 c3 ([y].map (Value.int .i64)) rfl (HS2.out.below (by with_reducible (repeat (first | (refine below_drewN ?_ _) | (refine Below.drew ?_) | (refine below_alloc ?_ (by first | omega | (simp; done) | (simp; omega)) _) | (refine Below.setCell ?_ (by first | omega | (simp; done) | (simp; omega)) _) | exact Below.refl _ _ | assumption | (refine below_call ?_ (by first | omega | (simp; done) | (simp; omega)) (by assumption))))) (Nat.le_refl _)) ints_one (by unfold maxLen; omega) (by omega) (by omega) ?_); intro v' w4 hown3 hgrow hloc)
        have hB3 : Below w.heap.size w w4 := Below.grown (by have := BXw.out; exact (by with_reducible (repeat (first | (refine below_drewN ?_ _) | (refine Below.drew ?_) | (refine below_alloc ?_ (by first | omega | (simp; done) | (simp; omega)) _) | (refine Below.setCell ?_ (by first | omega | (simp; done) | (simp; omega)) _) | exact Below.refl _ _ | assumption | (refine below_call ?_ (by first | omega | (simp; done) | (simp; omega)) (by assumption)))))) hgrow (by omega) (fun j hj => by have := (HR2.out.lt j hj).1; omega)
        have hO3 : w4.ownsRow w.heap.size 3 1 (.slice (some ⟨g1, 0, none⟩) (m + 1) c1) (m + 1) ((a :: q).map (Value.int .i64)) := HO2.out.kept hgrow (.inr (by simp [Value.ownBlock]; omega))
        have hG3 := GX.out.grown hgrow (fun j hj => by have := (HR2.out.lt j hj).1; omega)
        obtain ⟨g3, c4, rfl, hlo3⟩ := own_pos hown3 (by omega)
        have hg3 : ¬ g3 = g1 := by
          have h1 := (HO2.out.lt g1 rfl).2
          rcases hloc with h | h
          · have h2 : g3 = g := by simpa [Value.ownBlock] using h
            omega
          · simp [Value.ownBlock] at h; omega
        have HB3 := Lib.hid hB3; have HR3 := Lib.hid hown3; have HO3 := Lib.hid hO3; have HG3 := Lib.hid hG3
        clear hB3 hgrow hown3 hloc hO3 hG3
        have hK : Hid (stkPath n ls a (s.take (k + 1)) = p ++ [y]) := Lib.hid (by rw [HAT.out.path, HP.out, HSEG.out])
        go_wp2_with fail
        go_roundw
        case rel =>
          refine ⟨k + 1, g3, c4, by omega, by go_num, ?_, ?_, hg3, HO3.out, HB3.out, HG3.out⟩
          · rw [hK.out, List.length_append]; rfl
          · have h1 := HR3.out
            rw [hK.out, List.length_append, ← List.cons_append, List.map_append]
            exact h1
        case measure => simp [intOf]; omega
    · obtain rfl : k = m := by omega
      go_wp2_with fail
      go_ret
      have hv : stkPV n ls a s = a :: p := by rw [stkPV, HS.out, ← HP.out, List.take_of_length_le (by have := HM.out; omega)]
      rw [MadeInts, hv]
      exact ⟨_, rfl, (OwnR.of HR.out).mono (by omega) (Nat.le_refl _), HB.out⟩
end Go.Proofs.Ytoebefpmfgkpoaa
