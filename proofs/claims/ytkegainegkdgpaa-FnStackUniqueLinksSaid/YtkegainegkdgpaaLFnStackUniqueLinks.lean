/- FnStackUniqueLinks: for every input the call returns true, and the argument reads afterwards as before. No condition. -/
import Derived.Test.YtkegainegkdgpaaLwH
import Derived.Test.YtkegainegkdgpaaUniqI
import Derived.Test.YtkegainegkdgpaaRows
import Derived.Test.YtkegainegkdgpaaOpen
import Derived.ProofKit
import Derived.OpenShut
import Derived.ShutString
import Derived.ChangeOld
import Derived.Lib.SmallJoins
namespace Go.Proofs.Ytkegainegkdgpaa.lawFnStackUniqueLinks
set_option linter.unusedSimpArgs false
set_option linter.unusedVariables false
open Go.ChangeShapes Go.WideShapes Go.ChangeAt Go.RowKit Go.Joins
theorem links_unq {n : Int} {ls : List LinkD} {a b : Int} {p : List Int} (h : GOk n ls) (ha : nd n.toNat a) (hw : isW (cstL ls) a p b) (h8 : p.length ≤ 8) : unqV n ls a (lnkS ls a p) = true := by
  obtain ⟨r1, r2⟩ := lnkS_run h hw
  have hi := h.nN.1 ha
  have hg : (gOk n ls && inB a 0 (n - 1)) = true := by rw [gOk_iff.2 h, inB_iff.2 (by omega)]; rfl
  rw [unqV_some (q := p) (by rw [stkOf_ok hg (by rw [lnkS_len]; exact h8)]; exact r1)]
  exact r2
set_option maxRecDepth 100000 in
set_option maxHeartbeats 4000000 in
theorem walk (v : Value) (w : World) (h : CodeAt w v) :
    Calls Try.prog 9 #[v] w fun e w' => e = .returned (.bool true) ∧ Below w.heap.size w w' := by
  obtain ⟨a0, n0, cap0, b0, off0, rfl, hcap0, hmax0, ha0, hc0⟩ := id h
  unfold maxLen at hmax0
  clear ha0 hc0
  have H := Lib.hid h
  obtain ⟨i0, hi, hz0, hz1, hz2⟩ := info_parts infoLab
  have HI := Lib.hid hi; have HZ0 := Lib.hid hz0; have HZ1 := Lib.hid hz1; have HZ2 := Lib.hid hz2
  clear hi hz0 hz1 hz2
  clear h
  by_cases hn : 1048576 < n0
  · go_enter Try.func9, Try.ntmps9
    go_wp2
    go_ret
    exact ⟨rfl, Below.refl _ _⟩
  go_enter Try.func9, Try.ntmps9
  go_wp2_with fail
  refine (drawSE _ _ H.out).mono ?_
  rintro e w1 ⟨⟨n, u, ls, a, x, s, rfl, hls, hT, hs, hP, _, _⟩, hb⟩
  have L1 : LwS w w1.heap.size n u ls x s (w1.alloc (.cells #[.int .i64 n, u] 25)) := LwS.new hb hT hP
  obtain ⟨ua, uc, rfl, hul, hum⟩ := hT.form2
  obtain ⟨xa, xc, rfl, hxl, hxm⟩ := hP.form2
  unfold maxLen at hum hxm
  have HL := Lib.hid L1
  clear hb L1 hT hP
  rcases hq : stkOf n ls a s with _ | q
  · have HQ := Lib.hid hq
    clear hq
    go_wp2_with fail
    refine (iEndNo HQ.out HL.out.tri HL.out.prs).mono ?_
    rintro e w2 ⟨rfl, hb⟩
    replace HL := Lib.hid (HL.out.below hb)
    obtain ⟨c0, c1, f0, f1, l0⟩ := box2 HL.out.box
    clear hb
    go_wp2_with fail
    refine (sEndNo HQ.out HL.out.tri HL.out.prs).mono ?_
    rintro e w3 ⟨rfl, hb⟩
    replace HL := Lib.hid (HL.out.below hb)
    clear hb c0 c1 f0 f1 l0
    go_wp2_with fail
    go_ret
    exact ⟨rfl, HL.out.bw⟩
  · have HQ := Lib.hid hq
    obtain ⟨z, hz⟩ : ∃ z, lastN a q = z := ⟨_, rfl⟩
    have HZ := Lib.hid hz
    have hs8 : s.length ≤ 8 := (stkOf_some hq).len
    have e1 : (z != z) = false := by simp
    have e2 : (z == z) = true := by simp
    clear hq hz
    go_wp2_with fail
    refine (iEndYes HQ.out HZ.out HL.out.tri HL.out.prs).mono ?_
    rintro e w2 ⟨rfl, hb⟩
    replace HL := Lib.hid (HL.out.below hb)
    obtain ⟨c0, c1, f0, f1, l0⟩ := box2 HL.out.box
    clear hb
    go_wp2_with fail
    refine (sEndYes HQ.out HZ.out HL.out.tri HL.out.prs).mono ?_
    rintro e w3 ⟨rfl, hb⟩
    replace HL := Lib.hid (HL.out.below hb)
    clear hb c0 c1 f0 f1 l0
    obtain ⟨P, hPF⟩ := stkPV_yes HQ.out
    obtain ⟨L, hL⟩ : ∃ L, stkPV n ls a s = L := ⟨_, rfl⟩
    have hLP : L = a :: P := by rw [← hL]; exact hPF.pv
    have hLl : L.length = P.length + 1 := by rw [hLP]; rfl
    have hL65 : L.length ≤ 65 := by have := hPF.len; omega
    have hL1 : 1 ≤ L.length := by omega
    have HPF := Lib.hid hPF; have HLP := Lib.hid hLP; have HFF := Lib.hid (stkOf_some HQ.out); have HLl := Lib.hid hLl; have HLL := Lib.hid hL
    clear hPF hLP hL hLl
    obtain ⟨c0, c1, f0, f1, l0⟩ := box2 HL.out.box
    go_wp2_with fail
    refine (iPathAny HLL.out HL.out.tri HL.out.prs).mono ?_
    rintro e w4 ⟨oA, oc, rfl, ho, hb⟩
    have HO : Hid (LwH w w1.heap.size n (.slice ua ls.length uc) ls (.slice xa s.length xc) s (.slice oA L.length oc) L w4) := Lib.hid ⟨HL.out.below hb, ho⟩
    clear hb HL ho c0 c1 f0 f1 l0
    obtain ⟨ob, oo, rfl, hob⟩ := HO.out.out.some (by omega)
    have HR0 : Hid ((w4.alloc (.cells #[] 40)).ownsRow w4.heap.size 40 2 (.slice (some ⟨w4.heap.size, 0, none⟩) 0 0) 0 (cells2 (lnkS ls a (P.take (Int.toNat 1 - 1))))) := Lib.hid (own_new rfl (Nat.le_refl _))
    have HB0 : Hid (Below w4.heap.size w4 (w4.alloc (.cells #[] 40))) := Lib.hid ((Below.refl _ _).alloc (Nat.le_refl _) _)
    go_wp2_with fail
    go_loopw [11, 12] (fun sv i wr => ∃ (J : Int) (k : Nat), 1 ≤ J ∧ J ≤ (L.length:Int) ∧ J ≤ 9 ∧ J = (k:Int) + 1 ∧ i = .int .i64 J ∧ wr.ownsRow w4.heap.size 40 2 sv k (cells2 (lnkS ls a (P.take k))) ∧ Below w4.heap.size w4 wr) (fun _ i _ => L.length - (intOf i).toNat)
    case atStart => exact ⟨1, 0, by omega, by omega, by omega, by omega, rfl, HR0.out, HB0.out⟩
    case round =>
      obtain ⟨J, k, hJ1, hJ2, hJ9, hJk, rfl, hR, hB⟩ := hrel
      clear HR0 HB0
      have HJK := Lib.hid hJk
      have HB := Lib.hid hB
      have HR := Lib.hid hR
      have HOr := Lib.hid (HO.out.below hB)
      obtain ⟨sa, sc, rfl⟩ := own_slice hR
      have hkl : k ≤ 8 := by omega
      clear hB hR hJk
      by_cases hJM : J < (L.length:Int) ∧ J ≤ 8
      · obtain ⟨hJM, hJ8⟩ := hJM
        have t1 : decide (J < (L.length:Int)) = true := decide_eq_true hJM
        have t2 : decide (J ≤ 8) = true := decide_eq_true hJ8
        obtain ⟨x, y, i, l, hx, hy, hk, hli, _, _⟩ := link_at (J := J) HFF.out.ok HPF.out.walk hJ1 (by rw [← HLP.out]; exact hJM)
        have hJt : J.toNat = k + 1 := by have := HJK.out; omega
        have hsn := lnkS_at ls (p := P) (a := a) (k := k) (x := x) (y := y) (by rw [show k = J.toNat - 1 by omega]; exact hx) (by rw [← hJt]; exact hy)
        have hlen : k + 1 ≤ P.length := by have := HLl.out; omega
        have HSN := Lib.hid hsn
        rw [← HLP.out] at hx hy
        have wJ : IntKind.i64.wrap (J - 1) = J - 1 := IntWalk.i64_in _ (by omega)
        have wJ2 : IntKind.i64.wrap (J + 1) = J + 1 := IntWalk.i64_in _ (by omega)
        have hI2 : 0 ≤ J - 1 := by omega
        have hI3 : J - 1 < (L.length:Int) := by omega
        have hI4 : 1 ≤ J := hJ1
        have hI5 : J < (L.length:Int) + 1 := by omega
        have hI6 : 0 ≤ J := by omega
        obtain ⟨kk, hkk⟩ : ∃ kk, lkOf ls x y = kk := ⟨_, rfl⟩
        have HKK := Lib.hid hkk
        rw [hkk] at HSN
        have d0 := HOr.out.out.get hx
        have d1 := HOr.out.out.get hy
        clear hx hy hk hli hsn hkk hJt
        go_wp2_with fail
        replace HOr := Lib.hid HOr.out.drew
        have HR2 := Lib.hid (own_drew HR.out)
        have HB2 := Lib.hid HB.out.drew
        clear HR HB
        obtain ⟨b0, b1, f0, f1, hb0⟩ := box2 HOr.out.st.box
        refine wp_region_noPanic ?_
        refine wp_region_held_drew (S := (fun w' => w'.cell? ⟨w1.heap.size, 0, none⟩ = some (.int .i64 n) ∧ w'.cell? ⟨w1.heap.size, 1, none⟩ = some (.slice ua ls.length uc) ∧ w'.cell? ⟨ob, oo + (J.toNat - 1), none⟩ = some (.int .i64 x) ∧ w'.cell? ⟨ob, oo + J.toNat, none⟩ = some (.int .i64 y))) (by kernel_rfl) (by ((try dsimp only); (first | go_keep | exact ⟨b0, b1, d0, d1⟩))) (fun hHeld => ?_)
        refine wpAnyH_take (i := 0) (oi := _) (v := ?_) rfl (by kernel_rfl) (by kernel_rfl) (by kernel_rfl) (fun _ _ _ h => h) (Or.inl ⟨by rfl, ?_⟩) (by assumption) ?_
        rotate_left
        focus (intro w hSw; (try dsimp only at hSw); go_simp; try (with_reducible rfl))
        try simp only [List.getElem_toArray, List.getElem_cons_zero, List.getElem_cons_succ, Act.put, List.setIfInBounds_toArray, List.set_cons_zero, List.set_cons_succ]
        refine wpAnyH_take (i := 1) (oi := _) (v := ?_) rfl (by kernel_rfl) (by kernel_rfl) (by kernel_rfl) (fun _ _ _ h => h) (Or.inl ⟨by rfl, ?_⟩) (by assumption) ?_
        rotate_left
        focus (intro w hSw; (try dsimp only at hSw); go_simp; try (with_reducible rfl))
        try simp only [List.getElem_toArray, List.getElem_cons_zero, List.getElem_cons_succ, Act.put, List.setIfInBounds_toArray, List.set_cons_zero, List.set_cons_succ]
        refine wpAnyH_take (i := 2) (oi := _) (v := ?_) rfl (by kernel_rfl) (by kernel_rfl) (by kernel_rfl) (fun _ _ _ h => h) (Or.inl ⟨by rfl, ?_⟩) (by assumption) ?_
        rotate_left
        focus (intro w hSw; (try dsimp only at hSw); go_simp; try (with_reducible rfl))
        try simp only [List.getElem_toArray, List.getElem_cons_zero, List.getElem_cons_succ, Act.put, List.setIfInBounds_toArray, List.set_cons_zero, List.set_cons_succ]
        refine wpAnyH_take (i := 3) (oi := _) (v := ?_) rfl (by kernel_rfl) (by kernel_rfl) (by kernel_rfl) (fun _ _ _ h => h) (Or.inl ⟨by rfl, ?_⟩) (by assumption) ?_
        rotate_left
        focus (intro w hSw; (try dsimp only at hSw); go_simp; try (with_reducible rfl))
        try simp only [List.getElem_toArray, List.getElem_cons_zero, List.getElem_cons_succ, Act.put, List.setIfInBounds_toArray, List.set_cons_zero, List.set_cons_succ]
        refine wpAnyH_take (i := 4) (oi := _) (v := ?_) rfl (by kernel_rfl) (by kernel_rfl) (by kernel_rfl) (fun _ _ _ h => h) (Or.inl ⟨by rfl, ?_⟩) (by assumption) ?_
        rotate_left
        focus (intro w hSw; (try dsimp only at hSw); go_simp; try (with_reducible rfl))
        try simp only [List.getElem_toArray, List.getElem_cons_zero, List.getElem_cons_succ, Act.put, List.setIfInBounds_toArray, List.set_cons_zero, List.set_cons_succ]
        refine wpAnyH_take (i := 5) (oi := _) (v := ?_) rfl (by kernel_rfl) (by kernel_rfl) (by kernel_rfl) (fun _ _ _ h => h) (Or.inl ⟨by rfl, ?_⟩) (by assumption) ?_
        rotate_left
        focus (intro w hSw; (try dsimp only at hSw); go_simp; try (with_reducible rfl))
        try simp only [List.getElem_toArray, List.getElem_cons_zero, List.getElem_cons_succ, Act.put, List.setIfInBounds_toArray, List.set_cons_zero, List.set_cons_succ]
        refine wpAnyH_take (i := 6) (oi := _) (v := ?_) rfl (by kernel_rfl) (by kernel_rfl) (by kernel_rfl) (fun _ _ _ h => h) (Or.inl ⟨by rfl, ?_⟩) (by assumption) ?_
        rotate_left
        focus (intro w hSw; (try dsimp only at hSw); go_simp; try (with_reducible rfl))
        try simp only [List.getElem_toArray, List.getElem_cons_zero, List.getElem_cons_succ, Act.put, List.setIfInBounds_toArray, List.set_cons_zero, List.set_cons_succ]
        refine wpAnyH_take (i := 7) (oi := _) (v := ?_) rfl (by kernel_rfl) (by kernel_rfl) (by kernel_rfl) (fun _ _ _ h => h) (Or.inl ⟨by rfl, ?_⟩) (by assumption) ?_
        rotate_left
        focus (intro w hSw; (try dsimp only at hSw); go_simp; try (with_reducible rfl))
        try simp only [List.getElem_toArray, List.getElem_cons_zero, List.getElem_cons_succ, Act.put, List.setIfInBounds_toArray, List.set_cons_zero, List.set_cons_succ]
        refine wpAnyH_take (i := 8) (oi := _) (v := ?_) rfl (by kernel_rfl) (by kernel_rfl) (by kernel_rfl) (fun _ _ _ h => h) (Or.inl ⟨by rfl, ?_⟩) (by assumption) ?_
        rotate_left
        focus (intro w hSw; (try dsimp only at hSw); go_simp; try (with_reducible rfl))
        try simp only [List.getElem_toArray, List.getElem_cons_zero, List.getElem_cons_succ, Act.put, List.setIfInBounds_toArray, List.set_cons_zero, List.set_cons_succ]
        refine wpAnyH_take (i := 9) (oi := _) (v := ?_) rfl (by kernel_rfl) (by kernel_rfl) (by kernel_rfl) (fun _ _ _ h => h) (Or.inl ⟨by rfl, ?_⟩) (by assumption) ?_
        rotate_left
        focus (intro w hSw; (try dsimp only at hSw); go_simp; try (with_reducible rfl))
        try simp only [List.getElem_toArray, List.getElem_cons_zero, List.getElem_cons_succ, Act.put, List.setIfInBounds_toArray, List.set_cons_zero, List.set_cons_succ]
        refine wpAnyH_take (i := 10) (oi := _) (v := ?_) rfl (by kernel_rfl) (by kernel_rfl) (by kernel_rfl) (fun _ _ _ h => h) (Or.inl ⟨by rfl, ?_⟩) (by assumption) ?_
        rotate_left
        focus (intro w hSw; (try dsimp only at hSw); go_simp; try (with_reducible rfl))
        try simp only [List.getElem_toArray, List.getElem_cons_zero, List.getElem_cons_succ, Act.put, List.setIfInBounds_toArray, List.set_cons_zero, List.set_cons_succ]
        refine wpAnyH_ready (rs := [11]) (by kernel_rfl) (by simp) ?_
        refine AllReadyH.cons (o := _) rfl (fun K hK => ?_) AllReadyH.nil
        go_simp
        (go_at_call 18; refine (iGraphLink n ls x y _ _ HOr.out.st.tri HFF.out.ok).mono ?_; rw [HKK.out]; rintro e w6 ⟨rfl, hb⟩; replace HOr := Lib.hid (HOr.out.below hb); replace HR2 := Lib.hid ((OwnR.of HR2.out).below hb (Nat.le_refl _)).1; replace HB2 := Lib.hid (HB2.out.trans (hb.mono HB2.out.size)); replace d0 := cell_below hb d0 (cell_lt d0); replace d1 := cell_below hb d1 (cell_lt d1); clear hb b0 b1 f0 f1 hb0; obtain ⟨b0, b1, f0, f1, hb0⟩ := box2 HOr.out.st.box)
        refine hK.out _ _ (by ((try dsimp only); (first | go_keep | exact ⟨b0, b1, d0, d1⟩))) (fun hHeld => ?_)
        clear hK K
        try simp only [List.getElem_toArray, List.getElem_cons_zero, List.getElem_cons_succ, Act.put, List.setIfInBounds_toArray, List.set_cons_zero, List.set_cons_succ]
        refine wpAnyH_take (i := 12) (oi := _) (v := ?_) rfl (by kernel_rfl) (by kernel_rfl) (by kernel_rfl) (fun _ _ _ h => h) (Or.inl ⟨by rfl, ?_⟩) (by assumption) ?_
        rotate_left
        focus (intro w hSw; (try dsimp only at hSw); go_simp; try (with_reducible rfl))
        try simp only [List.getElem_toArray, List.getElem_cons_zero, List.getElem_cons_succ, Act.put, List.setIfInBounds_toArray, List.set_cons_zero, List.set_cons_succ]
        refine wpAnyH_ready (rs := [13]) (by kernel_rfl) (by simp) ?_
        refine AllReadyH.cons (o := _) rfl (fun K hK => ?_) AllReadyH.nil
        go_simp
        (have SB := Lib.hid (box_new w6 #[.int .i64 2, .int .i64 kk] 40); have hb : Below w6.heap.size w6 (w6.alloc (.cells #[.int .i64 2, .int .i64 kk] 40)) := ((Below.refl _ _).alloc (Nat.le_refl _) _); have hws := HB2.out.size; replace HOr := Lib.hid (HOr.out.below hb); replace HR2 := Lib.hid (HR2.out.alloc (.cells #[.int .i64 2, .int .i64 kk] 40)); replace HB2 := Lib.hid (HB2.out.trans (hb.mono HB2.out.size)); replace d0 := cell_below hb d0 (cell_lt d0); replace d1 := cell_below hb d1 (cell_lt d1); clear hb b0 b1 f0 f1 hb0; obtain ⟨b0, b1, f0, f1, hb0⟩ := box2 HOr.out.st.box)
        refine hK.out _ _ (by ((try dsimp only); (first | go_keep | exact ⟨b0, b1, d0, d1⟩))) (fun hHeld => ?_)
        clear hK K
        try simp only [List.getElem_toArray, List.getElem_cons_zero, List.getElem_cons_succ, Act.put, List.setIfInBounds_toArray, List.set_cons_zero, List.set_cons_succ]
        refine wpAnyH_ready (rs := [14]) (by kernel_rfl) (by simp) ?_
        refine AllReadyH.cons (o := _) rfl (fun K hK => ?_) AllReadyH.nil
        (refine step_append_rd (by rfl) _ _ _ (by rfl) w4.heap.size 40 i0 _ 2 16 Try.underlying26 HI.out HZ0.out HZ1.out HZ2.out rfl (by omega) (.slice sa k sc) k (cells2 (lnkS ls a (P.take k))) (by rfl) HR2.out (some ⟨w6.heap.size, 0, none⟩) 1 1 [.int .i64 2, .int .i64 kk] (by rfl) (srcAt_one (n := 1) (o := 2) SB.out rfl) (by simp [Value.oneCell']) (by unfold maxLen; omega) (by omega) (by simp; omega) ?_; intro v' w7 hown3 hgrow hloc; have hb7 := Below.grown (Below.refl w4.heap.size _) hgrow (by simp; omega) (fun j hj => (HR2.out.lt j hj).1); have B7 := Lib.hid (HB2.out.trans hb7); have hcc0 := HB2.out; clear b0 b1 f0 f1 hb0; obtain ⟨b0, b1, f0, f1, hb0⟩ := box2 (HO.out.below B7.out).st.box; replace d0 := cell_below hb7 d0 (show ob < w4.heap.size from hob); replace d1 := cell_below hb7 d1 (show ob < w4.heap.size from hob))
        refine hK.out _ _ (by ((try dsimp only); (first | go_keep | exact ⟨b0, b1, d0, d1⟩))) (fun hHeld => ?_)
        clear hK K
        try simp only [List.getElem_toArray, List.getElem_cons_zero, List.getElem_cons_succ, Act.put, List.setIfInBounds_toArray, List.set_cons_zero, List.set_cons_succ]
        refine wpAnyH_take (i := 15) (oi := _) (v := ?_) rfl (by kernel_rfl) (by kernel_rfl) (by kernel_rfl) (fun _ _ _ h => h) (Or.inl ⟨by rfl, ?_⟩) (by assumption) ?_
        rotate_left
        focus (intro w hSw; (try dsimp only at hSw); go_simp; try (with_reducible rfl))
        try simp only [List.getElem_toArray, List.getElem_cons_zero, List.getElem_cons_succ, Act.put, List.setIfInBounds_toArray, List.set_cons_zero, List.set_cons_succ]
        refine wpAnyH_done (by kernel_rfl) ?_ _
        refine NoPanic.normal ?_
        obtain ⟨na, nc, rfl⟩ := own_slice hown3
        go_wp2_with fail
        go_roundw
        case rel =>
          refine ⟨J + 1, k + 1, by omega, by omega, by omega, by have := HJK.out; omega, rfl, ?_, B7.out⟩
          rw [HSN.out]
          have e : cells2 (lnkS ls a (P.take k) ++ [(2, kk)]) = cells2 (lnkS ls a (P.take k)) ++ [.int .i64 2, .int .i64 kk] := by simp [cells2]
          rw [e]; exact hown3
        case measure => simp [intOf]; omega
      · have hunq : unqV n ls a (lnkS ls a (P.take k)) = true := links_unq HFF.out.ok HFF.out.nd (isW_take k HPF.out.walk) (by rw [List.length_take]; omega)
        have HUNQ := Lib.hid hunq
        have hPR : PairsAt wr (.slice sa k sc) (lnkS ls a (P.take k)) := by
          have hl : (lnkS ls a (P.take k)).length = k := by rw [lnkS_len, List.length_take]; have := HLl.out; have := HJK.out; omega
          have h1 : wr.ownsRow w4.heap.size 40 2 (.slice sa k sc) (lnkS ls a (P.take k)).length (cells2 (lnkS ls a (P.take k))) := by rw [hl]; exact HR.out
          exact pairs_of_owns h1
        have HPR := Lib.hid hPR
        clear hunq hPR
        obtain ⟨b0, b1, f0, f1, hb0⟩ := box2 HOr.out.st.box
        by_cases hJ3 : J < (L.length:Int)
        · have t1 : decide (J < (L.length:Int)) = true := decide_eq_true hJ3
          have t2 : decide (J ≤ 8) = false := decide_eq_false (by omega)
          go_wp2_with fail
          refine (iStackUnique n ls a _ _ _ _ HOr.out.st.tri HPR.out).mono ?_
          rw [HUNQ.out]
          rintro e w6 ⟨rfl, hb⟩
          have HLast := Lib.hid (HOr.out.below hb)
          clear hb
          go_wp2_with fail
          go_ret
          exact ⟨rfl, HLast.out.st.bw⟩
        · have t1 : decide (J < (L.length:Int)) = false := decide_eq_false hJ3
          go_wp2_with fail
          refine (iStackUnique n ls a _ _ _ _ HOr.out.st.tri HPR.out).mono ?_
          rw [HUNQ.out]
          rintro e w6 ⟨rfl, hb⟩
          have HLast := Lib.hid (HOr.out.below hb)
          clear hb
          go_wp2_with fail
          go_ret
          exact ⟨rfl, HLast.out.st.bw⟩
theorem own : ownKnob Try.prog.godebug = none := by kernel_rfl
theorem laidOut : laidOutB Try.prog = true := by kernel_rfl
set_option maxRecDepth 100000 in
theorem lifted (os : Os) (started : os.Started) (H : Type) (enc : TypeId × Value → H) :
    ReturnsInHanded {} Try.checked os 9 .any (Rows.fnStackUniqueLinksSpec.pre6 enc Try.prog Try.f9 Rows.fnStackUniqueLinksRow.domain false) (Rows.fnStackUniqueLinksSpec.post enc Try.prog Try.f9 false true false false) := by
  refine returnsInHanded_of_change (C := Try.checked) own started (by kernel_rfl) Try.func9
    (ChangeSpec.witness6 (enc := enc) (C := Try.checked) false ⟨#[], #[.slice none 0 0], []⟩ 8 (by kernel_rfl) (by kernel_rfl) (by kernel_rfl) (by kernel_rfl)) ?_
  intro W base args ds gs before hval0 hW hcnd _
  have hval : ∀ (j : Nat) t v, Try.f9.params[j]? = some t → args[j]? = some v → Value.okWide Try.prog W .any base t v := hval0
  have hW' := hW
  obtain ⟨p, q, hA0, hV, rfl, hfz, hnd⟩ := hW
  have hA : DataW.TrodAll enc Try.prog W 0 (fun _ => true) true Try.f9.params.toList args.toList ds p := hA0
  rw [Try.params9] at hA hval
  obtain ⟨v0, vs0, d0, ds0, p0, q0, hargs, rfl, rfl, h0, r0⟩ := trodAll_cons hA
  obtain ⟨rfl, rfl, rfl⟩ := trodAll_nil r0
  obtain rfl : args = #[v0] := by cases args; simp_all
  obtain ⟨rfl, rfl⟩ := trodVars_none hV
  have k0 := h0
  have lt0 : ∀ x ∈ p0, x.block < W.heap.size := by obtain ⟨m, hm⟩ := k0; exact DataW.trod_lt m _ _ _ hm
  have w0 : CodeAt W v0 := codeAt_of_trod (T := 22) (E := 5) Try.underlying22 Try.underlying5 (by kernel_rfl) (hval 0 22 v0 rfl rfl) h0
  clear hA0 hval0
  refine (walk v0 W w0).mono fun e W' ⟨he, bel⟩ => ?_
  subst he
  exact ⟨_, rfl, _, _, _, [], _, [], hW', trodAll_mk1 (shut_bool Try.underlying4 _), (trodAll_cons_mk (Below.trod laidOut (by kernel_rfl) (of_decide_eq_true (by kernel_rfl)) k0 bel lt0) trodAll_mk0), rfl, bel.frame _, fun h => by cases h⟩
theorem over : Rows.fnStackUniqueLinksRow.holds Try.pinned (OpenSpec.ofChange Rows.fnStackUniqueLinksSpec) :=
  OpenClaim.holds_of_wide 9 Try.f9 rfl rfl rfl rfl rfl rfl rfl ⟨rfl, rfl, rfl, rfl, rfl⟩ rfl rfl rfl rfl rfl (by kernel_rfl) Try.func9 (by kernel_rfl)
    (of_decide_eq_true (by kernel_rfl)) (by unfold Func.isWrapper; first | (rw [if_pos (by decide +kernel)]; kernel_rfl) | (rw [if_neg (by decide +kernel)]; exact ⟨rfl, rfl⟩))
    (fun os started H enc _ => lifted os started H enc)
end Go.Proofs.Ytkegainegkdgpaa.lawFnStackUniqueLinks
namespace Go.Proofs.Ytkegainegkdgpaa
set_option linter.unusedSimpArgs false
set_option linter.unusedVariables false
/-- The statement. -/
theorem FnStackUniqueLinks_proved : Rows.FnStackUniqueLinksSaid := lawFnStackUniqueLinks.over
#print axioms FnStackUniqueLinks_proved
end Go.Proofs.Ytkegainegkdgpaa
