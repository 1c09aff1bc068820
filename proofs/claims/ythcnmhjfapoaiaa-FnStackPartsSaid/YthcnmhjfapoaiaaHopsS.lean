/- Next hops: l2Hops of the reference: hopsL. -/
import Derived.Test.YthcnmhjfapoaiaaNb
namespace Go.Proofs.Ythcnmhjfapoaiaa
set_option linter.unusedSimpArgs false
set_option linter.unusedVariables false
open Go.RowKit

def hopsG (n : Int) (ls : List LinkD) (a b : Int) : List Int := hopsL n.toNat (cstL ls) (distG n ls b) a
def hopsK (n : Int) (ls : List LinkD) (a b : Int) (k : Nat) : List Int := ((nodesL n.toNat).take k).filter (hopB (cstL ls) (distG n ls b) a)
theorem nodesL_at {N k : Nat} (h : k < N) : (nodesL N)[k]? = some (k:Int) := by
  unfold nodesL
  rw [List.getElem?_map, List.getElem?_range h]; rfl
theorem nodesL_len (N : Nat) : (nodesL N).length = N := by simp [nodesL]
theorem hopsK_snoc {n : Int} {ls : List LinkD} {a b : Int} {k : Nat} (h : k < n.toNat) : hopsK n ls a b (k + 1) = hopsK n ls a b k ++ (if hopB (cstL ls) (distG n ls b) a (k:Int) = true then [(k:Int)] else []) := by
  obtain ⟨h1, h2⟩ := List.getElem?_eq_some_iff.1 (nodesL_at h)
  unfold hopsK
  rw [List.take_succ_eq_append_getElem h1, h2, List.filter_append]
  by_cases e : hopB (cstL ls) (distG n ls b) a (k:Int) = true <;> simp [List.filter_cons, e]
theorem hopsK_len (n : Int) (ls : List LinkD) (a b : Int) (k : Nat) : (hopsK n ls a b k).length ≤ k :=
  Nat.le_trans (List.length_filter_le _ _) (by rw [List.length_take]; exact Nat.min_le_left _ _)
theorem hopsK_all (n : Int) (ls : List LinkD) (a b : Int) : hopsK n ls a b n.toNat = hopsG n ls a b := by
  unfold hopsK hopsG hopsL
  rw [List.take_of_length_le (by rw [nodesL_len]; exact Nat.le_refl _)]
set_option maxRecDepth 100000 in
set_option maxHeartbeats 4000000 in
theorem sHops (n : Int) (ls : List LinkD) (a b : Int) (v : Value) (w : World) (hv : TriplesAt w v ls) (h : GOk n ls) (ha : nd n.toNat a) (hb : nd n.toNat b) :
    Calls Try.prog 88 #[.agg #[.int .i64 n, v], .int .i64 a, .int .i64 b] w (MadeInts w (hopsG n ls a b)) := by
  have HV := Lib.hid hv
  obtain ⟨va, vcap, vb, voff, rfl, hvcap, hvmax, hva, hvc⟩ := hv
  obtain ⟨vm, hvm⟩ : ∃ m, m = ls.length := ⟨_, rfl⟩
  rw [← hvm] at hvcap hva HV ⊢
  have HVM := Lib.hid hvm; have HVC := Lib.hid hvc; have HVA := Lib.hid hva
  have hvl : vm ≤ 14 := by have := h.len; omega
  have hn1 := h.n1
  have hn8 := h.n8
  have hai := h.nN.1 ha
  obtain ⟨N, rfl⟩ : ∃ N : Nat, n = N := ⟨n.toNat, by omega⟩
  have HG := Lib.hid h; have HA := Lib.hid ha; have HB := Lib.hid hb
  obtain ⟨i0, hi, hz0, hz1, hz2⟩ := info_parts infoI
  have HI := Lib.hid hi; have HZ0 := Lib.hid hz0; have HZ1 := Lib.hid hz1; have HZ2 := Lib.hid hz2
  clear h ha hb hvm hvc hva hi hz0 hz1 hz2
  obtain ⟨ha0, ha1⟩ := hai
  obtain ⟨d, hd⟩ : ∃ d, distL (N:Int) ls b = d := ⟨_, rfl⟩
  have HD := Lib.hid hd
  have HL : Hid (d.length = N) := Lib.hid (by rw [← hd, distL_len]; omega)
  clear hd
  go_enter Try.func88, Try.ntmps88
  go_wp2_with fail
  refine (sDist (N:Int) ls b _ _ (HV.out.below (by with_reducible (repeat (first | (refine below_drewN ?_ _) | (refine Below.drew ?_) | (refine below_alloc ?_ (by first | omega | (simp; done) | (simp; omega)) _) | (refine Below.setCell ?_ (by first | omega | (simp; done) | (simp; omega)) _) | exact Below.refl _ _ | assumption | (refine below_call ?_ (by first | omega | (simp; done) | (simp; omega)) (by assumption))))) (Nat.le_refl _)) HG.out HB.out).mono ?_
  rintro e w1 ⟨v1, rfl, hO, hb⟩
  have G := Lib.hid (Box.call (b := w.heap.size) (c := #[.int .i64 (N:Int), .slice va vm vcap]) (t := 30) hb (by with_reducible (repeat (first | (refine box_at _ _ _ ?_; first | rfl | (simp; done)) | apply Box.alloc | apply Box.drewN | apply Box.drew))))
  obtain ⟨G_0, G_1, G_2, G_3, G_4⟩ := box2 G.out
  have BW := Lib.hid (below_call (B := w.heap.size) (a := w) (by with_reducible (repeat (first | (refine below_drewN ?_ _) | (refine Below.drew ?_) | (refine below_alloc ?_ (by first | omega | (simp; done) | (simp; omega)) _) | (refine Below.setCell ?_ (by first | omega | (simp; done) | (simp; omega)) _) | exact Below.refl _ _ | assumption | (refine below_call ?_ (by first | omega | (simp; done) | (simp; omega)) (by assumption))))) (Nat.le_refl _) hb)
  rw [HD.out] at hO
  have O1 := Lib.hid hO
  obtain ⟨g1, c1, rfl, hlo1⟩ := own_pos hO.1 (by have := HL.out; omega)
  have HR0 : Hid (w1.ownsRow (w.heap.size + 1) 3 1 (.slice (some ⟨w.heap.size + 1, 0, none⟩) 0 0) 0 []) := Lib.hid (((OwnR.of (own_new (w := w.alloc (.cells #[.int .i64 (N:Int), .slice va vm vcap] 30)) (g := w.heap.size + 1) (base := w.heap.size + 1) (e := 3) (size := 1) (by simp) (Nat.le_refl _))).below hb (Nat.le_refl _)).1)
  clear hb hO
  go_wp2_with fail
  have HGB : Hid (∀ m, nd N m → -1 ≤ atD d m ∧ atD d m ≤ 4480) := Lib.hid fun m hm => by rw [← HD.out]; exact distG_bnd HG.out.fits HG.out.n8 HG.out.len HB.out (by simpa using hm)
  have HO1 : Hid (w1.ownsRow w.heap.size 3 1 (.slice (some ⟨g1, 0, none⟩) d.length c1) d.length (d.map (Value.int .i64))) := Lib.hid (O1.out.mono (by simp; omega) (Nat.le_refl _)).1
  have hgne : ¬ w.heap.size + 1 = g1 := by have := O1.out.lt g1 rfl; simp at this; omega
  clear O1 hlo1 G_0 G_1 G_2 G_3 G_4
  go_loopw [7, 9] (fun ov i wr => ∃ (k g c : Nat), k ≤ N ∧ i = .int .i64 k ∧ ov = .slice (some ⟨g, 0, none⟩) (hopsK N ls a b k).length c ∧ wr.ownsRow (w.heap.size + 1) 3 1 ov (hopsK N ls a b k).length ((hopsK N ls a b k).map (Value.int .i64)) ∧ ¬ g = g1 ∧ wr.ownsRow w.heap.size 3 1 (.slice (some ⟨g1, 0, none⟩) d.length c1) d.length (d.map (Value.int .i64)) ∧ Below w.heap.size w wr ∧ Box wr w.heap.size #[.int .i64 (N:Int), .slice va vm vcap] 30) (fun _ i _ => N - (intOf i).toNat)
  case atStart => exact ⟨0, w.heap.size + 1, 0, Nat.zero_le _, rfl, rfl, HR0.out, hgne, HO1.out, BW.out, G.out⟩
  case round =>
    obtain ⟨k, g, c, hk, rfl, rfl, hR, hgg, hO, hBl, hG⟩ := hrel
    clear HR0 HO1 BW G
    obtain ⟨p, hp⟩ : ∃ p, hopsK N ls a b k = p := ⟨_, rfl⟩
    have hpl := hopsK_len N ls a b k
    have HP := Lib.hid hp
    rw [hp] at hR hpl ⊢
    have HR := Lib.hid hR; have HBL := Lib.hid hBl; have HO := Lib.hid hO; have HGX := Lib.hid hG
    clear hp hR hBl hO
    obtain ⟨G_0, G_1, G_2, G_3, G_4⟩ := box2 hG
    clear hG
    by_cases hkm : k < N
    · have hkI : (k:Int) < (N:Int) := by omega
      have HSN := Lib.hid (hopsK_snoc (n := (N:Int)) (ls := ls) (a := a) (b := b) (k := k) (by omega))
      rw [HP.out] at HSN
      have hkn : nd N (k:Int) := by unfold nd; omega
      have han : nd N a := by unfold nd; omega
      obtain ⟨E, hE⟩ : ∃ E, atD d (k:Int) = E := ⟨_, rfl⟩
      obtain ⟨F, hF⟩ : ∃ F, atD d a = F := ⟨_, rfl⟩
      have hEb := HGB.out _ hkn
      have hFb := HGB.out _ han
      rw [hE] at hEb
      rw [hF] at hFb
      have HHB : Hid (hopB (cstL ls) (distG N ls b) a (k:Int) = (decide (0 < cstL ls a k) && decide (0 ≤ E) && decide (E + cstL ls a k = F))) := Lib.hid (by unfold hopB distG; rw [HD.out, hE, hF])
      have HE := Lib.hid hE; have HF' := Lib.hid hF; have HKN := Lib.hid hkn; have HAN := Lib.hid han
      clear hE hF hkn han
      have hkd : (k:Int) < (d.length:Int) := by have := HL.out; omega
      have had : a < (d.length:Int) := by have := HL.out; omega
      go_wp2_with fail
      refine (sLinkOf (N:Int) ls a (k:Int) _ _ (HV.out.below HBL.out (Nat.le_refl _))).mono ?_
      rintro e w2 ⟨rfl, hb⟩
      have HB2 := Lib.hid (HBL.out.trans (hb.mono HBL.out.size))
      have HR2 := Lib.hid (((OwnR.of HR.out).below hb (Nat.le_refl _)).1)
      have HO2 := Lib.hid (((OwnR.of HO.out).below hb (Nat.le_refl _)).1)
      have HG2 := Lib.hid (HGX.out.below hb HGX.out.lt)
      obtain ⟨G_0, G_1, G_2, G_3, G_4⟩ := box2 HG2.out
      clear hb HBL HR HO HGX
      rcases lk_cases ls a (k:Int) with ⟨h1, h2, _⟩ | ⟨i, ⟨lx, ly, lz⟩, h1, h2, h3, h4⟩
      · have HHB2 : Hid (hopB (cstL ls) (distG N ls b) a (k:Int) = false) := Lib.hid (by rw [HHB.out, h2]; simp)
        rw [h1]
        clear h1 h2
        go_wp2_with fail
        go_quiet (fail)
        go_wp2_with fail
        go_roundw
        case rel =>
          refine ⟨k + 1, g, c, by omega, by go_num, ?_, ?_, hgg, own_drewN HO2.out _, below_drewN HB2.out _, HG2.out.drewN _⟩
          · rw [HSN.out, HHB2.out]; simp
          · rw [HSN.out, HHB2.out]; simpa using own_drewN HR2.out nq
        case measure => simp [intOf]; omega
      · have hil : i < vm := by have := (List.getElem?_eq_some_iff.1 h2).1; have := HVM.out; omega
        have hva := HVA.out (by omega)
        subst hva
        obtain ⟨_, _, d2⟩ := HVC.out i lx ly lz h2
        have hlz := HG.out.link i _ h2
        simp only at hlz h4
        obtain ⟨_, _, _, hz1, hz20⟩ := hlz
        have e2 := cell_below HB2.out d2 (cell_lt d2)
        have hiI : (i:Int) < (vm:Int) := by omega
        have hi0 : (0:Int) ≤ (i:Int) := by omega
        obtain ⟨q0, _⟩ := row_at HO2.out rfl (show nd d.length (k:Int) by rw [HL.out]; exact HKN.out)
        obtain ⟨q1, _⟩ := row_at HO2.out rfl (show nd d.length a by rw [HL.out]; exact HAN.out)
        rw [HE.out, Int.toNat_natCast] at q0
        rw [HF'.out] at q1
        have ws : IntKind.i64.wrap (E + lz) = E + lz := IntWalk.i64_in _ (by omega)
        rw [h4] at HHB
        rw [h1]
        clear h1 h2 h3 h4 d2
        by_cases t1 : 0 ≤ E
        rotate_left
        · have HHB2 : Hid (hopB (cstL ls) (distG N ls b) a (k:Int) = false) := Lib.hid (by rw [HHB.out]; simp [t1])
          have t1' : decide (0 ≤ E) = false := by simpa using t1
          go_wp2_with fail
          go_quiet (fail)
          go_wp2_with fail
          go_roundw
          case rel =>
            refine ⟨k + 1, g, c, by omega, by go_num, ?_, ?_, hgg, own_drewN HO2.out _, below_drewN HB2.out _, HG2.out.drewN _⟩
            · rw [HSN.out, HHB2.out]; simp
            · rw [HSN.out, HHB2.out]; simpa using own_drewN HR2.out nq
          case measure => simp [intOf]; omega
        have t1' : decide (0 ≤ E) = true := by simpa using t1
        by_cases t2 : E + lz = F
        · have HHB2 : Hid (hopB (cstL ls) (distG N ls b) a (k:Int) = true) := Lib.hid (by rw [HHB.out]; simp [t1, t2]; omega)
          have t2' : (E + lz == F) = true := by simpa using t2
          clear t2
          go_wp2_with fail
          go_quiet (fail)
          go_wp2_with (at_builtin; refine wpList_append_rd rfl _ _ _ rfl (w.heap.size + 1) 3 i0 _ 1 8 Try.underlying25 HI.out HZ0.out HZ1.out HZ2.out rfl (by have := HB2.out.size; omega) (.slice (some ⟨g, 0, none⟩) p.length c) p.length (p.map (Value.int .i64)) rfl (by with_reducible (repeat (first | exact HR2.out | apply own_drewN | apply own_drew | apply World.ownsRow.alloc | (refine own_setCell ?_ (by first | (simp; done) | omega | (simp; omega)) _)))) (some ⟨w2.heap.size, 0, none⟩) 1 1 [.int .i64 (k:Int)] rfl (srcAt_one (box_new _ #[.int .i64 (k:Int)] _) rfl) (one_ok _ _) (by unfold maxLen; omega) (by omega) (by simp; have := HB2.out.size; have := HG2.out.lt; omega) ?_; intro v' w3 hown3 hgrow hloc)
          have hB3 : Below w.heap.size w w3 := Below.grown (by have := HB2.out; have := HB2.out.size; exact (by with_reducible (repeat (first | (refine below_drewN ?_ _) | (refine Below.drew ?_) | (refine below_alloc ?_ (by first | omega | (simp; done) | (simp; omega)) _) | (refine Below.setCell ?_ (by first | omega | (simp; done) | (simp; omega)) _) | exact Below.refl _ _ | assumption | (refine below_call ?_ (by first | omega | (simp; done) | (simp; omega)) (by assumption)))))) hgrow (by simp; have := HB2.out.size; omega) (fun j hj => by have := (HR2.out.lt j hj).1; omega)
          have hO3 : w3.ownsRow w.heap.size 3 1 (.slice (some ⟨g1, 0, none⟩) d.length c1) d.length (d.map (Value.int .i64)) := ((own_drewN HO2.out nq).alloc _).kept hgrow (.inr (by simp [Value.ownBlock]; omega))
          have hG3 := ((HG2.out.drewN nq).alloc (.cells #[.int .i64 (k:Int)] 3)).grown hgrow (fun j hj => by have := (HR2.out.lt j hj).1; omega)
          obtain ⟨g3, c3, rfl, hlo3⟩ := own_pos hown3 (by omega)
          have hg3 : ¬ g3 = g1 := by
            have h1 := (HO2.out.lt g1 rfl).2
            rcases hloc with h | h
            · have h2 : g3 = g := by simpa [Value.ownBlock] using h
              omega
            · simp [Value.ownBlock] at h; omega
          have HB3 := Lib.hid hB3; have HR3 := Lib.hid hown3; have HO3 := Lib.hid hO3; have HG3 := Lib.hid hG3
          clear hB3 hgrow hown3 hloc hO3 hG3
          go_wp2_with fail
          go_roundw
          case rel =>
            refine ⟨k + 1, g3, c3, by omega, by go_num, ?_, ?_, hg3, HO3.out, HB3.out, HG3.out⟩
            · rw [HSN.out, HHB2.out]; simp
            · have := HR3.out
              rw [map_snoc] at this
              rw [HSN.out, HHB2.out]
              simpa using this
          case measure => simp [intOf]; omega
        · have HHB2 : Hid (hopB (cstL ls) (distG N ls b) a (k:Int) = false) := Lib.hid (by rw [HHB.out]; simp [t2])
          have t2' : (E + lz == F) = false := by simpa using t2
          clear t2
          go_wp2_with fail
          go_quiet (fail)
          go_wp2_with fail
          go_roundw
          case rel =>
            refine ⟨k + 1, g, c, by omega, by go_num, ?_, ?_, hgg, own_drewN HO2.out _, below_drewN HB2.out _, HG2.out.drewN _⟩
            · rw [HSN.out, HHB2.out]; simp
            · rw [HSN.out, HHB2.out]; simpa using own_drewN HR2.out nq
          case measure => simp [intOf]; omega
    · obtain rfl : k = N := by omega
      go_wp2_with fail
      go_ret
      have hp : hopsG (k:Int) ls a b = p := by rw [← HP.out, ← hopsK_all]; simp
      rw [hp]
      exact ⟨_, rfl, (OwnR.of HR.out).mono (by omega) (Nat.le_refl _), HBL.out⟩
end Go.Proofs.Ythcnmhjfapoaiaa
