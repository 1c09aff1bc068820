/- Whether a shortest path crosses a link: l2Used of the reference: usedB. -/
import Derived.Test.YtkegainegkdgpaaStkEnd
import Derived.Test.YtkegainegkdgpaaGrAll
namespace Go.Proofs.Ytkegainegkdgpaa
set_option linter.unusedSimpArgs false
set_option linter.unusedVariables false
open Go.RowKit

structure UsedAt (n : Int) (ls : List LinkD) (a b : Int) (k : Nat) (x y z D da db ea eb : Int) : Prop where
  link : ls[k]? = some (x, y, z)
  d : distG n ls a b = D
  ax : distG n ls a x = da
  ay : distG n ls a y = db
  bx : distG n ls b x = ea
  by_ : distG n ls b y = eb
theorem UsedAt.no {n : Int} {ls : List LinkD} {a b : Int} {k : Nat} {x y z D da db ea eb : Int} (h : UsedAt n ls a b k x y z D da db ea eb) (hn : D < 0 ∨ da < 0) : usedB n ls a b k = false := by
  unfold usedB
  rw [getD_of h.link]
  simp only [h.d, h.ax]
  rw [if_pos hn]
theorem UsedAt.yes {n : Int} {ls : List LinkD} {a b : Int} {k : Nat} {x y z D da db ea eb : Int} (h : UsedAt n ls a b k x y z D da db ea eb) (h1 : ¬ D < 0) (h2 : ¬ da < 0) : usedB n ls a b k = ((da + z + eb == D) || (db + z + ea == D)) := by
  unfold usedB
  rw [getD_of h.link]
  simp only [h.d, h.ax, h.ay, h.bx, h.by_]
  rw [if_neg (by omega)]
theorem usedAt {n : Int} {ls : List LinkD} (h : GOk n ls) {a b : Int} (ha : nd n.toNat a) (hb : nd n.toNat b) {k : Nat} {x y z : Int} (hl : ls[k]? = some (x, y, z)) :
    ∃ D da db ea eb, UsedAt n ls a b k x y z D da db ea eb ∧ nd n.toNat x ∧ nd n.toNat y ∧ 1 ≤ z ∧ z ≤ 20 ∧ -1 ≤ D ∧ D ≤ 4480 ∧ -1 ≤ da ∧ da ≤ 4480 ∧ -1 ≤ db ∧ db ≤ 4480 ∧ -1 ≤ ea ∧ ea ≤ 4480 ∧ -1 ≤ eb ∧ eb ≤ 4480 := by
  have hk := h.link k _ hl
  simp only at hk
  have hx : nd n.toNat x := h.nN.2 (by omega)
  have hy : nd n.toNat y := h.nN.2 (by omega)
  have B : ∀ {u v}, nd n.toNat u → nd n.toNat v → -1 ≤ distG n ls u v ∧ distG n ls u v ≤ 4480 := fun hu hv => distG_bnd h.fits h.n8 h.len hu hv
  refine ⟨_, _, _, _, _, ⟨hl, rfl, rfl, rfl, rfl, rfl⟩, hx, hy, by omega, by omega, ?_⟩
  have b1 := B ha hb
  have b2 := B ha hx
  have b3 := B ha hy
  have b4 := B hb hx
  have b5 := B hb hy
  omega
set_option maxRecDepth 100000 in
set_option maxHeartbeats 4000000 in
theorem sUsed (n : Int) (ls : List LinkD) (a b : Int) (k : Nat) (v : Value) (w : World) (hv : TriplesAt w v ls) (h : GOk n ls) (ha : nd n.toNat a) (hb : nd n.toNat b) (hk : k < ls.length) :
    Calls Try.prog 64 #[.agg #[.int .i64 n, v], .int .i64 a, .int .i64 b, .int .i64 (k:Int)] w fun e w' => e = .returned (.bool (usedB n ls a b k)) ∧ Below w.heap.size w w' := by
  have HV := Lib.hid hv
  obtain ⟨va, vcap, vb, voff, rfl, hvcap, hvmax, hva, hvc⟩ := hv
  obtain ⟨vm, hvm⟩ : ∃ m, m = ls.length := ⟨_, rfl⟩
  rw [← hvm] at hvcap hva HV hk ⊢
  have HVM := Lib.hid hvm
  have hva := hva (by omega)
  subst hva
  obtain ⟨⟨x, y, z⟩, hl⟩ := at_lt hvm hk
  obtain ⟨d0, d1, d2⟩ := hvc k x y z hl
  have hkI : (k:Int) < (vm:Int) := by omega
  have hk0 : (0:Int) ≤ (k:Int) := by omega
  have hbd := cell_lt d0
  have hn1 := h.n1
  have hn8 := h.n8
  obtain ⟨D, da, db, ea, eb, hU, hx, hy, z1, z20, q0, q1, q2, q3, q4, q5, q6, q7, q8, q9⟩ := usedAt h ha hb hl
  have HU := Lib.hid hU
  have hbi := h.nN.1 hb
  have hxi := h.nN.1 hx
  have hyi := h.nN.1 hy
  have p0 : IntKind.i64.wrap (da + z) = da + z := IntWalk.i64_in _ (by omega)
  have p1 : IntKind.i64.wrap (da + z + eb) = da + z + eb := IntWalk.i64_in _ (by omega)
  have p2 : IntKind.i64.wrap (db + z) = db + z := IntWalk.i64_in _ (by omega)
  have p3 : IntKind.i64.wrap (db + z + ea) = db + z + ea := IntWalk.i64_in _ (by omega)
  have HG := Lib.hid h; have HA := Lib.hid ha; have HB := Lib.hid hb; have HX := Lib.hid hx; have HY := Lib.hid hy
  clear hvm hvc hl h hU ha hb hx hy
  obtain ⟨d, hd⟩ : ∃ d, distL n ls a = d := ⟨_, rfl⟩
  obtain ⟨e, he⟩ : ∃ d, distL n ls b = d := ⟨_, rfl⟩
  have hdl : d.length = n.toNat := by rw [← hd]; exact distL_len n ls a
  have hel : e.length = n.toNat := by rw [← he]; exact distL_len n ls b
  have HD := Lib.hid hd; have HE := Lib.hid he
  have HDL := Lib.hid hdl; have HEL := Lib.hid hel
  have i1 : b < (d.length:Int) := by omega
  have i2 : x < (d.length:Int) := by omega
  have i3 : y < (d.length:Int) := by omega
  have i4 : x < (e.length:Int) := by omega
  have i5 : y < (e.length:Int) := by omega
  obtain ⟨hb0, hb1⟩ := hbi
  obtain ⟨hx0, hx1⟩ := hxi
  obtain ⟨hy0, hy1⟩ := hyi
  clear hd he hdl hel
  go_enter Try.func64, Try.ntmps64
  go_wp2_with fail
  refine (sDist n ls a _ _ (HV.out.below (by with_reducible (repeat (first | (refine below_drewN ?_ _) | (refine Below.drew ?_) | (refine below_alloc ?_ (by first | omega | (simp; done) | (simp; omega)) _) | (refine Below.setCell ?_ (by first | omega | (simp; done) | (simp; omega)) _) | exact Below.refl _ _ | assumption | (refine below_call ?_ (by first | omega | (simp; done) | (simp; omega)) (by assumption))))) (Nat.le_refl _)) HG.out HA.out).mono ?_
  rintro e1 w1 ⟨v1, rfl, hO, hb⟩
  have G := Lib.hid (Box.call (b := w.heap.size) (c := #[.int .i64 n, .slice (some ⟨vb, voff, none⟩) vm vcap]) (t := 25) hb (by with_reducible (repeat (first | (refine box_at _ _ _ ?_; first | rfl | (simp; done)) | apply Box.alloc | apply Box.drewN | apply Box.drew))))
  obtain ⟨G_0, G_1, G_2, G_3, G_4⟩ := box2 G.out
  have BW := Lib.hid (below_call (B := w.heap.size) (a := w) (by with_reducible (repeat (first | (refine below_drewN ?_ _) | (refine Below.drew ?_) | (refine below_alloc ?_ (by first | omega | (simp; done) | (simp; omega)) _) | (refine Below.setCell ?_ (by first | omega | (simp; done) | (simp; omega)) _) | exact Below.refl _ _ | assumption | (refine below_call ?_ (by first | omega | (simp; done) | (simp; omega)) (by assumption))))) (Nat.le_refl _) hb)
  rw [HD.out] at hO
  have O1 := Lib.hid hO
  obtain ⟨g1, c1, rfl, _⟩ := own_pos hO.1 (by omega)
  clear hb hO
  go_wp2_with fail
  refine (sDist n ls b _ _ (HV.out.below BW.out (Nat.le_refl _)) HG.out HB.out).mono ?_
  rintro e1 w2 ⟨v2, rfl, hO, hb⟩
  have kk := Lib.hid (below_call (B := w1.heap.size) (a := w1) (by with_reducible (repeat (first | (refine below_drewN ?_ _) | (refine Below.drew ?_) | (refine below_alloc ?_ (by first | omega | (simp; done) | (simp; omega)) _) | (refine Below.setCell ?_ (by first | omega | (simp; done) | (simp; omega)) _) | exact Below.refl _ _ | assumption | (refine below_call ?_ (by first | omega | (simp; done) | (simp; omega)) (by assumption))))) (Nat.le_refl _) hb)
  replace BW := Lib.hid (BW.out.trans (kk.out.mono BW.out.size))
  replace G := Lib.hid (G.out.below kk.out G.out.lt)
  clear G_0 G_1 G_2 G_3 G_4
  obtain ⟨G_0, G_1, G_2, G_3, G_4⟩ := box2 G.out
  replace O1 := Lib.hid (O1.out.below kk.out (Nat.le_refl _))
  rw [HE.out] at hO
  have O2 := Lib.hid hO
  obtain ⟨g2, c2, rfl, _⟩ := own_pos hO.1 (by omega)
  clear hb hO kk
  have NA : ∀ {u}, nd n.toNat u → nd d.length u := fun h => by rw [HDL.out]; exact h
  have NE : ∀ {u}, nd n.toNat u → nd e.length u := fun h => by rw [HEL.out]; exact h
  have r0 := (row_at O1.out.1 rfl (NA HB.out)).1
  have r1 := (row_at O1.out.1 rfl (NA HX.out)).1
  have r2 := (row_at O1.out.1 rfl (NA HY.out)).1
  have r3 := (row_at O2.out.1 rfl (NE HX.out)).1
  have r4 := (row_at O2.out.1 rfl (NE HY.out)).1
  rw [show atD d b = D by rw [← HD.out]; exact HU.out.d] at r0
  rw [show atD d x = da by rw [← HD.out]; exact HU.out.ax] at r1
  rw [show atD d y = db by rw [← HD.out]; exact HU.out.ay] at r2
  rw [show atD e x = ea by rw [← HE.out]; exact HU.out.bx] at r3
  rw [show atD e y = eb by rw [← HE.out]; exact HU.out.by_] at r4
  have e0 := cell_below BW.out d0 hbd
  have e1 := cell_below BW.out d1 hbd
  have e2 := cell_below BW.out d2 hbd
  have l1 := cell_lt r0
  have l2 := cell_lt r3
  clear NA NE d0 d1 d2
  by_cases h1 : D < 0
  · have t1 : decide (D < 0) = true := by simpa using h1
    go_wp2_with fail
    go_ret
    have hB := BW.out
    exact ⟨ret_bool (HU.out.no (.inl h1)).symm, (by with_reducible (repeat (first | (refine below_drewN ?_ _) | (refine Below.drew ?_) | (refine below_alloc ?_ (by first | omega | (simp; done) | (simp; omega)) _) | (refine Below.setCell ?_ (by first | omega | (simp; done) | (simp; omega)) _) | exact Below.refl _ _ | assumption | (refine below_call ?_ (by first | omega | (simp; done) | (simp; omega)) (by assumption)))))⟩
  have t1 : decide (D < 0) = false := by simpa using h1
  by_cases h2 : da < 0
  · have t2 : decide (da < 0) = true := by simpa using h2
    go_wp2_with fail
    go_ret
    have hB := BW.out
    exact ⟨ret_bool (HU.out.no (.inr h2)).symm, (by with_reducible (repeat (first | (refine below_drewN ?_ _) | (refine Below.drew ?_) | (refine below_alloc ?_ (by first | omega | (simp; done) | (simp; omega)) _) | (refine Below.setCell ?_ (by first | omega | (simp; done) | (simp; omega)) _) | exact Below.refl _ _ | assumption | (refine below_call ?_ (by first | omega | (simp; done) | (simp; omega)) (by assumption)))))⟩
  have t2 : decide (da < 0) = false := by simpa using h2
  rcases Bool.eq_false_or_eq_true (da + z + eb == D) with t3 | t3
  · go_wp2_with fail
    go_quiet (fail)
    go_wp2_with fail
    go_ret
    have hB := BW.out
    exact ⟨ret_bool (by rw [HU.out.yes (by omega) (by omega), t3]; rfl), (by with_reducible (repeat (first | (refine below_drewN ?_ _) | (refine Below.drew ?_) | (refine below_alloc ?_ (by first | omega | (simp; done) | (simp; omega)) _) | (refine Below.setCell ?_ (by first | omega | (simp; done) | (simp; omega)) _) | exact Below.refl _ _ | assumption | (refine below_call ?_ (by first | omega | (simp; done) | (simp; omega)) (by assumption)))))⟩
  · go_wp2_with fail
    go_quiet (fail)
    go_wp2_with fail
    go_ret
    have hB := BW.out
    exact ⟨ret_bool (by rw [HU.out.yes (by omega) (by omega), t3]; rfl), (by with_reducible (repeat (first | (refine below_drewN ?_ _) | (refine Below.drew ?_) | (refine below_alloc ?_ (by first | omega | (simp; done) | (simp; omega)) _) | (refine Below.setCell ?_ (by first | omega | (simp; done) | (simp; omega)) _) | exact Below.refl _ _ | assumption | (refine below_call ?_ (by first | omega | (simp; done) | (simp; omega)) (by assumption)))))⟩
end Go.Proofs.Ytkegainegkdgpaa
