/- Next hops: l2Hops of the reference: hopsL. · Next hops: nextHops of the program: hopsL. · The shortest path over the smallest next hops: l2Path of the reference: shP. · The shortest path over the smallest next hops: shortestPath of the program: shP. -/
import Derived.Test.YtoebefpmfgkpoaaNb
import Derived.Deep.RegionHeld3
namespace Go.Proofs.Ytoebefpmfgkpoaa
set_option linter.unusedSimpArgs false
set_option linter.unusedVariables false
open Go.RowKit

def hopsG (n : Int) (ls : List LinkD) (a b : Int) : List Int := hopsL n.toNat (cstL ls) (distG n ls b) a
def hopsK (n : Int) (ls : List LinkD) (a b : Int) (k : Nat) : List Int := ((nodesL n.toNat).take k).filter (hopB (cstL ls) (distG n ls b) a)
theorem nodesL_at {N k : Nat} (h : k < N) : (nodesL N)[k]? = some (k:Int) := by
  unfold nodesL
  rw [List.getElem?_map, List.getElem?_range h]; rfl
theorem nodesL_len (N : Nat) : (nodesL N).length = N := by simp [nodesL]
theorem hopsK_snoc {n : Int} {ls : List LinkD} {a b : Int} {k : Nat} (h : k < n.toNat) : hopsK n ls a b (k + 1) = hopsK n ls a b k ++ (if hopB (cstL ls) (distG n ls b) a (k:Int) = true then [(k:Int)] else []) := by
  obtain ⟨h1, h2⟩ := List.getElem?_eq_some_iff.1 (nodesL_at h)
  unfold hopsK
  rw [List.take_succ_eq_append_getElem h1, h2, List.filter_append]
  by_cases e : hopB (cstL ls) (distG n ls b) a (k:Int) = true <;> simp [List.filter_cons, e]
theorem hopsK_len (n : Int) (ls : List LinkD) (a b : Int) (k : Nat) : (hopsK n ls a b k).length ≤ k :=
  Nat.le_trans (List.length_filter_le _ _) (by rw [List.length_take]; exact Nat.min_le_left _ _)
theorem hopsK_all (n : Int) (ls : List LinkD) (a b : Int) : hopsK n ls a b n.toNat = hopsG n ls a b := by
  unfold hopsK hopsG hopsL
  rw [List.take_of_length_le (by rw [nodesL_len]; exact Nat.le_refl _)]
set_option maxRecDepth 100000 in
set_option maxHeartbeats 4000000 in
theorem sHops (n : Int) (ls : List LinkD) (a b : Int) (v : Value) (w : World) (hv : TriplesAt w v ls) (h : GOk n ls) (ha : nd n.toNat a) (hb : nd n.toNat b) :
    Calls Try.prog 81 #[.agg #[.int .i64 n, v], .int .i64 a, .int .i64 b] w (MadeInts w (hopsG n ls a b)) := by
  have HV := Lib.hid hv
  obtain ⟨va, vcap, vb, voff, rfl, hvcap, hvmax, hva, hvc⟩ := hv
  obtain ⟨vm, hvm⟩ : ∃ m, m = ls.length := ⟨_, rfl⟩
  rw [← hvm] at hvcap hva HV ⊢
  have HVM := Lib.hid hvm; have HVC := Lib.hid hvc; have HVA := Lib.hid hva
  have hvl : vm ≤ 14 := by have := h.len; omega
  have hn1 := h.n1
  have hn8 := h.n8
  have hai := h.nN.1 ha
  obtain ⟨N, rfl⟩ : ∃ N : Nat, n = N := ⟨n.toNat, by omega⟩
  have HG := Lib.hid h; have HA := Lib.hid ha; have HB := Lib.hid hb
  obtain ⟨i0, hi, hz0, hz1, hz2⟩ := info_parts infoI
  have HI := Lib.hid hi; have HZ0 := Lib.hid hz0; have HZ1 := Lib.hid hz1; have HZ2 := Lib.hid hz2
  clear h ha hb hvm hvc hva hi hz0 hz1 hz2
  obtain ⟨ha0, ha1⟩ := hai
  obtain ⟨d, hd⟩ : ∃ d, distL (N:Int) ls b = d := ⟨_, rfl⟩
  have HD := Lib.hid hd
  have HL : Hid (d.length = N) := Lib.hid (by rw [← hd, distL_len]; omega)
  clear hd
  go_enter Try.func81, Try.ntmps81
  go_wp2_with fail
  refine (sDist (N:Int) ls b _ _ (HV.out.below (by with_reducible (repeat (first | (refine below_drewN ?_ _) | (refine Below.drew ?_) | (refine below_alloc ?_ (by first | omega | (simp; done) | (simp; omega)) _) | (refine Below.setCell ?_ (by first | omega | (simp; done) | (simp; omega)) _) | exact Below.refl _ _ | assumption | (refine below_call ?_ (by first | omega | (simp; done) | (simp; omega)) (by assumption))))) (Nat.le_refl _)) HG.out HB.out).mono ?_
  rintro e w1 ⟨v1, rfl, hO, hb⟩
  have G := Lib.hid (Box.call (b := w.heap.size) (c := #[.int .i64 (N:Int), .slice va vm vcap]) (t := 25) hb (by with_reducible (repeat (first | (refine box_at _ _ _ ?_; first | rfl | (simp; done)) | apply Box.alloc | apply Box.drewN | apply Box.drew))))
  obtain ⟨G_0, G_1, G_2, G_3, G_4⟩ := box2 G.out
  have BW := Lib.hid (below_call (B := w.heap.size) (a := w) (by with_reducible (repeat (first | (refine below_drewN ?_ _) | (refine Below.drew ?_) | (refine below_alloc ?_ (by first | omega | (simp; done) | (simp; omega)) _) | (refine Below.setCell ?_ (by first | omega | (simp; done) | (simp; omega)) _) | exact Below.refl _ _ | assumption | (refine below_call ?_ (by first | omega | (simp; done) | (simp; omega)) (by assumption))))) (Nat.le_refl _) hb)
  rw [HD.out] at hO
  have O1 := Lib.hid hO
  obtain ⟨g1, c1, rfl, hlo1⟩ := own_pos hO.1 (by have := HL.out; omega)
  have HR0 : Hid (w1.ownsRow (w.heap.size + 1) 3 1 (.slice (some ⟨w.heap.size + 1, 0, none⟩) 0 0) 0 []) := Lib.hid (((OwnR.of (own_new (w := w.alloc (.cells #[.int .i64 (N:Int), .slice va vm vcap] 25)) (g := w.heap.size + 1) (base := w.heap.size + 1) (e := 3) (size := 1) (by simp) (Nat.le_refl _))).below hb (Nat.le_refl _)).1)
  clear hb hO
  go_wp2_with fail
  have HGB : Hid (∀ m, nd N m → -1 ≤ atD d m ∧ atD d m ≤ 4480) := Lib.hid fun m hm => by rw [← HD.out]; exact distG_bnd HG.out.fits HG.out.n8 HG.out.len HB.out (by simpa using hm)
  have HO1 : Hid (w1.ownsRow w.heap.size 3 1 (.slice (some ⟨g1, 0, none⟩) d.length c1) d.length (d.map (Value.int .i64))) := Lib.hid (O1.out.mono (by simp; omega) (Nat.le_refl _)).1
  have hgne : ¬ w.heap.size + 1 = g1 := by have := O1.out.lt g1 rfl; simp at this; omega
  clear O1 hlo1 G_0 G_1 G_2 G_3 G_4
  go_loopw [7, 9] (fun ov i wr => ∃ (k g c : Nat), k ≤ N ∧ i = .int .i64 k ∧ ov = .slice (some ⟨g, 0, none⟩) (hopsK N ls a b k).length c ∧ wr.ownsRow (w.heap.size + 1) 3 1 ov (hopsK N ls a b k).length ((hopsK N ls a b k).map (Value.int .i64)) ∧ ¬ g = g1 ∧ wr.ownsRow w.heap.size 3 1 (.slice (some ⟨g1, 0, none⟩) d.length c1) d.length (d.map (Value.int .i64)) ∧ Below w.heap.size w wr ∧ Box wr w.heap.size #[.int .i64 (N:Int), .slice va vm vcap] 25) (fun _ i _ => N - (intOf i).toNat)
  case atStart => exact ⟨0, w.heap.size + 1, 0, Nat.zero_le _, rfl, rfl, HR0.out, hgne, HO1.out, BW.out, G.out⟩
  case round =>
    obtain ⟨k, g, c, hk, rfl, rfl, hR, hgg, hO, hBl, hG⟩ := hrel
    clear HR0 HO1 BW G
    obtain ⟨p, hp⟩ : ∃ p, hopsK N ls a b k = p := ⟨_, rfl⟩
    have hpl := hopsK_len N ls a b k
    have HP := Lib.hid hp
    rw [hp] at hR hpl ⊢
    have HR := Lib.hid hR; have HBL := Lib.hid hBl; have HO := Lib.hid hO; have HGX := Lib.hid hG
    clear hp hR hBl hO
    obtain ⟨G_0, G_1, G_2, G_3, G_4⟩ := box2 hG
    clear hG
    by_cases hkm : k < N
    · have hkI : (k:Int) < (N:Int) := by omega
      have HSN := Lib.hid (hopsK_snoc (n := (N:Int)) (ls := ls) (a := a) (b := b) (k := k) (by omega))
      rw [HP.out] at HSN
      have hkn : nd N (k:Int) := by unfold nd; omega
      have han : nd N a := by unfold nd; omega
      obtain ⟨E, hE⟩ : ∃ E, atD d (k:Int) = E := ⟨_, rfl⟩
      obtain ⟨F, hF⟩ : ∃ F, atD d a = F := ⟨_, rfl⟩
      have hEb := HGB.out _ hkn
      have hFb := HGB.out _ han
      rw [hE] at hEb
      rw [hF] at hFb
      have HHB : Hid (hopB (cstL ls) (distG N ls b) a (k:Int) = (decide (0 < cstL ls a k) && decide (0 ≤ E) && decide (E + cstL ls a k = F))) := Lib.hid (by unfold hopB distG; rw [HD.out, hE, hF])
      have HE := Lib.hid hE; have HF' := Lib.hid hF; have HKN := Lib.hid hkn; have HAN := Lib.hid han
      clear hE hF hkn han
      have hkd : (k:Int) < (d.length:Int) := by have := HL.out; omega
      have had : a < (d.length:Int) := by have := HL.out; omega
      go_wp2_with fail
      refine (sLinkOf (N:Int) ls a (k:Int) _ _ (HV.out.below HBL.out (Nat.le_refl _))).mono ?_
      rintro e w2 ⟨rfl, hb⟩
      have HB2 := Lib.hid (HBL.out.trans (hb.mono HBL.out.size))
      have HR2 := Lib.hid (((OwnR.of HR.out).below hb (Nat.le_refl _)).1)
      have HO2 := Lib.hid (((OwnR.of HO.out).below hb (Nat.le_refl _)).1)
      have HG2 := Lib.hid (HGX.out.below hb HGX.out.lt)
      obtain ⟨G_0, G_1, G_2, G_3, G_4⟩ := box2 HG2.out
      clear hb HBL HR HO HGX
      rcases lk_cases ls a (k:Int) with ⟨h1, h2, _⟩ | ⟨i, ⟨lx, ly, lz⟩, h1, h2, h3, h4⟩
      · have HHB2 : Hid (hopB (cstL ls) (distG N ls b) a (k:Int) = false) := Lib.hid (by rw [HHB.out, h2]; simp)
        rw [h1]
        clear h1 h2
        go_wp2_with fail
        go_quiet (fail)
        go_wp2_with fail
        go_roundw
        case rel =>
          refine ⟨k + 1, g, c, by omega, by go_num, ?_, ?_, hgg, own_drewN HO2.out _, below_drewN HB2.out _, HG2.out.drewN _⟩
          · rw [HSN.out, HHB2.out]; simp
          · rw [HSN.out, HHB2.out]; simpa using own_drewN HR2.out nq
        case measure => simp [intOf]; omega
      · have hil : i < vm := by have := (List.getElem?_eq_some_iff.1 h2).1; have := HVM.out; omega
        have hva := HVA.out (by omega)
        subst hva
        obtain ⟨_, _, d2⟩ := HVC.out i lx ly lz h2
        have hlz := HG.out.link i _ h2
        simp only at hlz h4
        obtain ⟨_, _, _, hz1, hz20⟩ := hlz
        have e2 := cell_below HB2.out d2 (cell_lt d2)
        have hiI : (i:Int) < (vm:Int) := by omega
        have hi0 : (0:Int) ≤ (i:Int) := by omega
        obtain ⟨q0, _⟩ := row_at HO2.out rfl (show nd d.length (k:Int) by rw [HL.out]; exact HKN.out)
        obtain ⟨q1, _⟩ := row_at HO2.out rfl (show nd d.length a by rw [HL.out]; exact HAN.out)
        rw [HE.out, Int.toNat_natCast] at q0
        rw [HF'.out] at q1
        have ws : IntKind.i64.wrap (E + lz) = E + lz := IntWalk.i64_in _ (by omega)
        rw [h4] at HHB
        rw [h1]
        clear h1 h2 h3 h4 d2
        by_cases t1 : 0 ≤ E
        rotate_left
        · have HHB2 : Hid (hopB (cstL ls) (distG N ls b) a (k:Int) = false) := Lib.hid (by rw [HHB.out]; simp [t1])
          have t1' : decide (0 ≤ E) = false := by simpa using t1
          go_wp2_with fail
          go_quiet (fail)
          go_wp2_with fail
          go_roundw
          case rel =>
            refine ⟨k + 1, g, c, by omega, by go_num, ?_, ?_, hgg, own_drewN HO2.out _, below_drewN HB2.out _, HG2.out.drewN _⟩
            · rw [HSN.out, HHB2.out]; simp
            · rw [HSN.out, HHB2.out]; simpa using own_drewN HR2.out nq
          case measure => simp [intOf]; omega
        have t1' : decide (0 ≤ E) = true := by simpa using t1
        by_cases t2 : E + lz = F
        · have HHB2 : Hid (hopB (cstL ls) (distG N ls b) a (k:Int) = true) := Lib.hid (by rw [HHB.out]; simp [t1, t2]; omega)
          have t2' : (E + lz == F) = true := by simpa using t2
          clear t2
          go_wp2_with fail
          go_quiet (fail)
          go_wp2_with (at_builtin; refine wpList_append_rd rfl _ _ _ rfl (w.heap.size + 1) 3 i0 _ 1 8 Try.underlying26 HI.out HZ0.out HZ1.out HZ2.out rfl (by have := HB2.out.size; omega) (.slice (some ⟨g, 0, none⟩) p.length c) p.length (p.map (Value.int .i64)) rfl (by with_reducible (repeat (first | exact HR2.out | apply own_drewN | apply own_drew | apply World.ownsRow.alloc | (refine own_setCell ?_ (by first | (simp; done) | omega | (simp; omega)) _)))) (some ⟨w2.heap.size, 0, none⟩) 1 1 [.int .i64 (k:Int)] rfl (srcAt_one (box_new _ #[.int .i64 (k:Int)] _) rfl) (one_ok _ _) (by unfold maxLen; omega) (by omega) (by simp; have := HB2.out.size; have := HG2.out.lt; omega) ?_; intro v' w3 hown3 hgrow hloc)
          have hB3 : Below w.heap.size w w3 := Below.grown (by have := HB2.out; have := HB2.out.size; exact (by with_reducible (repeat (first | (refine below_drewN ?_ _) | (refine Below.drew ?_) | (refine below_alloc ?_ (by first | omega | (simp; done) | (simp; omega)) _) | (refine Below.setCell ?_ (by first | omega | (simp; done) | (simp; omega)) _) | exact Below.refl _ _ | assumption | (refine below_call ?_ (by first | omega | (simp; done) | (simp; omega)) (by assumption)))))) hgrow (by simp; have := HB2.out.size; omega) (fun j hj => by have := (HR2.out.lt j hj).1; omega)
          have hO3 : w3.ownsRow w.heap.size 3 1 (.slice (some ⟨g1, 0, none⟩) d.length c1) d.length (d.map (Value.int .i64)) := ((own_drewN HO2.out nq).alloc _).kept hgrow (.inr (by simp [Value.ownBlock]; omega))
          have hG3 := ((HG2.out.drewN nq).alloc (.cells #[.int .i64 (k:Int)] 3)).grown hgrow (fun j hj => by have := (HR2.out.lt j hj).1; omega)
          obtain ⟨g3, c3, rfl, hlo3⟩ := own_pos hown3 (by omega)
          have hg3 : ¬ g3 = g1 := by
            have h1 := (HO2.out.lt g1 rfl).2
            rcases hloc with h | h
            · have h2 : g3 = g := by simpa [Value.ownBlock] using h
              omega
            · simp [Value.ownBlock] at h; omega
          have HB3 := Lib.hid hB3; have HR3 := Lib.hid hown3; have HO3 := Lib.hid hO3; have HG3 := Lib.hid hG3
          clear hB3 hgrow hown3 hloc hO3 hG3
          go_wp2_with fail
          go_roundw
          case rel =>
            refine ⟨k + 1, g3, c3, by omega, by go_num, ?_, ?_, hg3, HO3.out, HB3.out, HG3.out⟩
            · rw [HSN.out, HHB2.out]; simp
            · have := HR3.out
              rw [map_snoc] at this
              rw [HSN.out, HHB2.out]
              simpa using this
          case measure => simp [intOf]; omega
        · have HHB2 : Hid (hopB (cstL ls) (distG N ls b) a (k:Int) = false) := Lib.hid (by rw [HHB.out]; simp [t2])
          have t2' : (E + lz == F) = false := by simpa using t2
          clear t2
          go_wp2_with fail
          go_quiet (fail)
          go_wp2_with fail
          go_roundw
          case rel =>
            refine ⟨k + 1, g, c, by omega, by go_num, ?_, ?_, hgg, own_drewN HO2.out _, below_drewN HB2.out _, HG2.out.drewN _⟩
            · rw [HSN.out, HHB2.out]; simp
            · rw [HSN.out, HHB2.out]; simpa using own_drewN HR2.out nq
          case measure => simp [intOf]; omega
    · obtain rfl : k = N := by omega
      go_wp2_with fail
      go_ret
      have hp : hopsG (k:Int) ls a b = p := by rw [← HP.out, ← hopsK_all]; simp
      rw [hp]
      exact ⟨_, rfl, (OwnR.of HR.out).mono (by omega) (Nat.le_refl _), HBL.out⟩
end Go.Proofs.Ytoebefpmfgkpoaa
namespace Go.Proofs.Ytoebefpmfgkpoaa
set_option linter.unusedSimpArgs false
set_option linter.unusedVariables false
open Go.RowKit

/-- The next hops among the first k neighbours. -/
def hopsN (n : Int) (ls : List LinkD) (a b : Int) (k : Nat) : List Int := ((nbL n ls a).take k).filter (fun m => decide (distG n ls b m + cstL ls a m = distG n ls b a))
theorem hopsN_snoc {n : Int} {ls : List LinkD} {a b : Int} {k : Nat} {m : Int} (h : (nbL n ls a)[k]? = some m) : hopsN n ls a b (k + 1) = hopsN n ls a b k ++ (if distG n ls b m + cstL ls a m = distG n ls b a then [m] else []) := by
  obtain ⟨h1, h2⟩ := List.getElem?_eq_some_iff.1 h
  unfold hopsN
  rw [List.take_succ_eq_append_getElem h1, h2, List.filter_append]
  by_cases e : distG n ls b m + cstL ls a m = distG n ls b a <;> simp [List.filter_cons, e]
theorem hopsN_len (n : Int) (ls : List LinkD) (a b : Int) (k : Nat) : (hopsN n ls a b k).length ≤ k :=
  Nat.le_trans (List.length_filter_le _ _) (by rw [List.length_take]; exact Nat.min_le_left _ _)
theorem hopsN_all {n : Int} {ls : List LinkD} (h : GOk n ls) {a b : Int} (ha : nd n.toNat a) (hb : nd n.toNat b) (h0 : 0 ≤ distG n ls b a) : hopsN n ls a b (nbL n ls a).length = hopsG n ls a b := by
  unfold hopsN hopsG hopsL nbL
  rw [List.take_length, List.filter_filter]
  refine List.filter_congr fun m hm => ?_
  have hm := mem_nodesL.1 hm
  unfold hopB
  by_cases hc : 0 < cstL ls a m
  · have h1 := h.dst.link h.fits.ok hc
    have h2 := h.dst.tri h.fits.ok hb ha hm h0 h1.1
    simp [hc, h2.1]
  · simp [hc]
theorem hops_none {n : Int} {ls : List LinkD} (h : GOk n ls) {a b : Int} (ha : nd n.toNat a) (hb : nd n.toNat b) (h0 : a = b ∨ distG n ls b a < 0) : hopsG n ls a b = [] := by
  have hd : distG n ls b a ≤ 0 := by
    rcases h0 with rfl | h0
    · rw [h.dst.self h.fits.ok ha]; exact Int.le_refl _
    · omega
  unfold hopsG hopsL
  rw [List.filter_eq_nil_iff]
  intro m _
  unfold hopB
  simp only [Bool.and_eq_true, decide_eq_true_iff]
  rintro ⟨⟨h1, h2⟩, h3⟩
  omega
set_option maxRecDepth 100000 in
set_option maxHeartbeats 4000000 in
theorem iHops (n : Int) (ls : List LinkD) (a b : Int) (v : Value) (w : World) (hv : TriplesAt w v ls) (h : GOk n ls) (ha : nd n.toNat a) (hb : nd n.toNat b) :
    Calls Try.prog 77 #[.agg #[.int .i64 n, v], .int .i64 a, .int .i64 b] w (MadeInts w (hopsG n ls a b)) := by
  have HV := Lib.hid hv
  obtain ⟨va, vcap, vb, voff, rfl, hvcap, hvmax, hva, hvc⟩ := hv
  obtain ⟨vm, hvm⟩ : ∃ m, m = ls.length := ⟨_, rfl⟩
  rw [← hvm] at hvcap hva HV ⊢
  have HVM := Lib.hid hvm; have HVC := Lib.hid hvc; have HVA := Lib.hid hva
  have hvl : vm ≤ 14 := by have := h.len; omega
  have hn1 := h.n1
  have hn8 := h.n8
  have hai := h.nN.1 ha
  obtain ⟨N, rfl⟩ : ∃ N : Nat, n = N := ⟨n.toNat, by omega⟩
  have HG := Lib.hid h; have HA := Lib.hid ha; have HB := Lib.hid hb
  obtain ⟨i0, hi, hz0, hz1, hz2⟩ := info_parts infoI
  have HI := Lib.hid hi; have HZ0 := Lib.hid hz0; have HZ1 := Lib.hid hz1; have HZ2 := Lib.hid hz2
  clear h ha hb hvm hvc hva hi hz0 hz1 hz2
  obtain ⟨ha0, ha1⟩ := hai
  obtain ⟨d, hd⟩ : ∃ d, distL (N:Int) ls b = d := ⟨_, rfl⟩
  have HD := Lib.hid hd
  have HL : Hid (d.length = N) := Lib.hid (by rw [← hd, distL_len]; omega)
  clear hd
  go_enter Try.func77, Try.ntmps77
  go_wp2_with fail
  refine (iDist (N:Int) ls b _ _ (HV.out.below (by with_reducible (repeat (first | (refine below_drewN ?_ _) | (refine Below.drew ?_) | (refine below_alloc ?_ (by first | omega | (simp; done) | (simp; omega)) _) | (refine Below.setCell ?_ (by first | omega | (simp; done) | (simp; omega)) _) | exact Below.refl _ _ | assumption | (refine below_call ?_ (by first | omega | (simp; done) | (simp; omega)) (by assumption))))) (Nat.le_refl _)) HG.out HB.out).mono ?_
  rintro e w1 ⟨v1, rfl, hO, hb⟩
  have G := Lib.hid (Box.call (b := w.heap.size) (c := #[.int .i64 (N:Int), .slice va vm vcap]) (t := 25) hb (by with_reducible (repeat (first | (refine box_at _ _ _ ?_; first | rfl | (simp; done)) | apply Box.alloc | apply Box.drewN | apply Box.drew))))
  obtain ⟨G_0, G_1, G_2, G_3, G_4⟩ := box2 G.out
  have BW := Lib.hid (below_call (B := w.heap.size) (a := w) (by with_reducible (repeat (first | (refine below_drewN ?_ _) | (refine Below.drew ?_) | (refine below_alloc ?_ (by first | omega | (simp; done) | (simp; omega)) _) | (refine Below.setCell ?_ (by first | omega | (simp; done) | (simp; omega)) _) | exact Below.refl _ _ | assumption | (refine below_call ?_ (by first | omega | (simp; done) | (simp; omega)) (by assumption))))) (Nat.le_refl _) hb)
  rw [HD.out] at hO
  have O1 := Lib.hid hO
  obtain ⟨g1, c1, rfl, hlo1⟩ := own_pos hO.1 (by have := HL.out; omega)
  have HR0 : Hid (w1.ownsRow (w.heap.size + 1) 3 1 (.slice (some ⟨w.heap.size + 1, 0, none⟩) 0 0) 0 []) := Lib.hid (((OwnR.of (own_new (w := w.alloc (.cells #[.int .i64 (N:Int), .slice va vm vcap] 25)) (g := w.heap.size + 1) (base := w.heap.size + 1) (e := 3) (size := 1) (by simp) (Nat.le_refl _))).below hb (Nat.le_refl _)).1)
  clear hb hO
  have HGB : Hid (∀ m, nd N m → -1 ≤ atD d m ∧ atD d m ≤ 4480) := Lib.hid fun m hm => by rw [← HD.out]; exact distG_bnd HG.out.fits HG.out.n8 HG.out.len HB.out (by simpa using hm)
  have HO1 : Hid (w1.ownsRow w.heap.size 3 1 (.slice (some ⟨g1, 0, none⟩) d.length c1) d.length (d.map (Value.int .i64))) := Lib.hid (O1.out.mono (by simp; omega) (Nat.le_refl _)).1
  have hgne : ¬ w.heap.size + 1 = g1 := by have := O1.out.lt g1 rfl; simp at this; omega
  clear O1 hlo1 G_0 G_1 G_2 G_3 G_4
  have had : a < (d.length:Int) := by have := HL.out; omega
  have han : nd N a := by unfold nd; omega
  obtain ⟨F, hF⟩ : ∃ F, atD d a = F := ⟨_, rfl⟩
  have hFb := HGB.out _ han
  rw [hF] at hFb
  obtain ⟨q1, _⟩ := row_at HO1.out rfl (show nd d.length a by rw [HL.out]; exact han)
  rw [hF] at q1
  have HF' := Lib.hid hF; have HAN := Lib.hid han
  have HDF : Hid (distG N ls b a = F) := Lib.hid (by unfold distG; rw [HD.out, hF])
  clear hF han
  by_cases hab : a = b
  · subst hab
    have t0 : (a == a) = true := by simp
    have HN := Lib.hid (hops_none HG.out HA.out HB.out (.inl rfl))
    go_wp2_with fail
    go_ret
    rw [MadeInts, HN.out]
    exact ⟨_, rfl, (OwnR.of HR0.out).mono (by omega) (Nat.le_refl _), BW.out⟩
  have t0 : (a == b) = false := by simpa using hab
  by_cases hF0 : F < 0
  · have t1 : decide (F < 0) = true := by simpa using hF0
    have HN := Lib.hid (hops_none HG.out HA.out HB.out (.inr (by rw [HDF.out]; exact hF0)))
    go_wp2_with fail
    go_ret
    rw [MadeInts, HN.out]
    exact ⟨_, rfl, (OwnR.of HR0.out).mono (by omega) (Nat.le_refl _), BW.out⟩
  have t1 : decide (F < 0) = false := by simpa using hF0
  obtain ⟨G_0, G_1, G_2, G_3, G_4⟩ := box2 G.out
  go_wp2_with fail
  refine (iNb (N:Int) ls a _ _ (HV.out.below BW.out (Nat.le_refl _)) HG.out).mono ?_
  rintro e w2 ⟨v2, rfl, hO, hb⟩
  obtain ⟨r, hr⟩ : ∃ r, nbL (N:Int) ls a = r := ⟨_, rfl⟩
  have HRR := Lib.hid hr
  rw [hr] at hO
  have HNB := Lib.hid hO
  obtain ⟨ga, gc, rfl⟩ := own_slice hO.1
  have hsz1 := BW.out.size
  have hw1s : w.heap.size + 1 < w1.heap.size := (HR0.out.lt _ rfl).2
  have kk := Lib.hid (below_call (B := w1.heap.size) (a := w1) (by with_reducible (repeat (first | (refine below_drewN ?_ _) | (refine Below.drew ?_) | (refine below_alloc ?_ (by first | omega | (simp; done) | (simp; omega)) _) | (refine Below.setCell ?_ (by first | omega | (simp; done) | (simp; omega)) _) | exact Below.refl _ _ | assumption | (refine below_call ?_ (by first | omega | (simp; done) | (simp; omega)) (by assumption))))) (Nat.le_refl _) hb)
  replace BW := Lib.hid (BW.out.trans (kk.out.mono BW.out.size))
  replace G := Lib.hid (G.out.below kk.out G.out.lt)
  clear G_0 G_1 G_2 G_3 G_4
  obtain ⟨G_0, G_1, G_2, G_3, G_4⟩ := box2 G.out
  replace HO1 := Lib.hid (((OwnR.of HO1.out).below hb (Nat.le_refl _)).1)
  replace HR0 := Lib.hid (((OwnR.of HR0.out).below hb (Nat.le_refl _)).1)
  have hw12 := hb.size
  have hg1w : g1 < w1.heap.size := by have := cell_lt q1; simpa using this
  have hrl : Hid (r.length ≤ 8) := Lib.hid (by rw [← hr]; unfold nbL; exact Nat.le_trans (List.length_filter_le _ _) (by rw [nodesL_len]; omega))
  clear hr hb hO kk q1 G_0 G_1 G_2 G_3 G_4
  obtain ⟨M, hM⟩ : ∃ M, M = r.length := ⟨_, rfl⟩
  rw [← hM] at HNB ⊢
  have HM := Lib.hid hM
  have hM8 : M ≤ 8 := by have := hrl.out; omega
  clear hM
  go_wp2_with fail
  have hgz : ∀ z, (Value.slice ga M gc).ownBlock = some z → ¬ z = w.heap.size + 1 := fun z hz => by have := (HNB.out.lt z hz).1; omega
  have HGZ := Lib.hid hgz
  clear hgz
  go_loopw [7, 30] (fun ov i wr => ∃ (k g c : Nat), k ≤ M ∧ i = .int .i64 k ∧ ov = .slice (some ⟨g, 0, none⟩) (hopsN N ls a b k).length c ∧ wr.ownsRow (w.heap.size + 1) 3 1 ov (hopsN N ls a b k).length ((hopsN N ls a b k).map (Value.int .i64)) ∧ ¬ g = g1 ∧ (∀ z, (Value.slice ga M gc).ownBlock = some z → ¬ z = g) ∧ wr.ownsRow w.heap.size 3 1 (.slice (some ⟨g1, 0, none⟩) d.length c1) d.length (d.map (Value.int .i64)) ∧ OwnR wr w1.heap.size w2.heap.size 3 1 (.slice ga M gc) M (r.map (Value.int .i64)) ∧ Below w.heap.size w wr ∧ w2.heap.size ≤ wr.heap.size ∧ Box wr w.heap.size #[.int .i64 (N:Int), .slice va vm vcap] 25) (fun _ i _ => M - (intOf i).toNat)
  case atStart => exact ⟨0, w.heap.size + 1, 0, Nat.zero_le _, rfl, rfl, HR0.out, hgne, HGZ.out, HO1.out, HNB.out, BW.out, Nat.le_refl _, G.out⟩
  case round =>
    obtain ⟨k, g, c, hk, rfl, rfl, hR, hgg, hgz, hO, hNb, hBl, hsw, hG⟩ := hrel
    clear HR0 HO1 BW G HNB HGZ
    obtain ⟨p, hp⟩ : ∃ p, hopsN N ls a b k = p := ⟨_, rfl⟩
    have hpl := hopsN_len N ls a b k
    have HP := Lib.hid hp
    rw [hp] at hR hpl ⊢
    have HR := Lib.hid hR; have HBL := Lib.hid hBl; have HO := Lib.hid hO; have HGX := Lib.hid hG; have HNB := Lib.hid hNb; have HGZ := Lib.hid hgz
    clear hp hR hBl hO hNb hgz
    by_cases hkm : k < M
    · obtain ⟨m, hm⟩ := at_lt HM.out hkm
      obtain ⟨g2, c2, hform, _⟩ := own_pos HNB.out.1 (by omega)
      injection hform with hform1 hform2 hform3
      subst hform1
      subst hform3
      clear hform2
      have HSN := Lib.hid (hopsN_snoc (n := (N:Int)) (ls := ls) (a := a) (b := b) (k := k) (m := m) (by rw [HRR.out]; exact hm))
      rw [HP.out, HDF.out] at HSN
      obtain ⟨e0, _⟩ := own_at HNB.out.1 hm
      have hc0 : 0 < cstL ls a m := (mem_nbL HG.out).1 (by rw [HRR.out]; exact List.mem_of_getElem? hm)
      have hmn : nd (N:Int).toNat m := (HG.out.fits.ok.node a m hc0).2
      have hmi := HG.out.nN.1 hmn
      have hmn' : nd N m := by simpa using hmn
      obtain ⟨E, hE⟩ : ∃ E, atD d m = E := ⟨_, rfl⟩
      have hEb := HGB.out _ hmn'
      rw [hE] at hEb
      have HDE : Hid (distG N ls b m = E) := Lib.hid (by unfold distG; rw [HD.out, hE])
      rw [HDE.out] at HSN
      have hkI : (k:Int) < (M:Int) := by omega
      have hk0 : (0:Int) ≤ (k:Int) := by omega
      have hmd : m < (d.length:Int) := by have := HL.out; omega
      obtain ⟨hm0, hm1⟩ := hmi
      obtain ⟨q0, _⟩ := row_at HO.out rfl (show nd d.length m by rw [HL.out]; exact hmn')
      obtain ⟨q1, _⟩ := row_at HO.out rfl (show nd d.length a by rw [HL.out]; exact HAN.out)
      rw [hE] at q0
      rw [HF'.out] at q1
      obtain ⟨i, ⟨lx, ly, lz⟩, h1, h2, h3, h4⟩ := (lk_cases ls a m).resolve_left (fun e => by have := e.2.1; omega)
      have hil : i < vm := by have := (List.getElem?_eq_some_iff.1 h2).1; have := HVM.out; omega
      have hva := HVA.out (by omega)
      subst hva
      obtain ⟨_, _, d2⟩ := HVC.out i lx ly lz h2
      have hlz := HG.out.link i _ h2
      simp only at hlz h4
      obtain ⟨_, _, _, hz1, hz20⟩ := hlz
      have hvb := cell_lt d2
      have hiI : (i:Int) < (vm:Int) := by omega
      have hi0 : (0:Int) ≤ (i:Int) := by omega
      have ws : IntKind.i64.wrap (E + lz) = E + lz := IntWalk.i64_in _ (by omega)
      rw [h4] at HSN
      have HLK := Lib.hid h1
      clear hm hc0 hmn hmn' hE h1 h2 h3 h4
      go_wp2_with fail
      obtain ⟨I, φ, h0, hφ, hmk⟩ := famOf (wr).heap.size (wr)
      haveI : Nonempty I := h0.elim fun i _ => ⟨i⟩
      have H0 := Lib.hid h0; have HF := Lib.hid hφ; have HMK := Lib.hid hmk; have HBs : Hid ((wr).heap.size ≤ (wr).heap.size) := Lib.hid (Nat.le_refl _)
      clear h0 hφ hmk
      obtain ⟨G_0, G_1, G_2, G_3, G_4⟩ := box2F fun i => hG.below (HF.out i) hG.lt
      have HW : Hid (∀ i, Below w.heap.size w (φ i)) := Lib.hid fun i => HBL.out.trans ((HF.out i).mono HBL.out.size)
      have f0 : ∀ j, (φ j).cell? ⟨g1, m.toNat, none⟩ = some (.int .i64 E) := fun j => cell_below (HF.out j) q0 (cell_lt q0)
      have f1 : ∀ j, (φ j).cell? ⟨g1, a.toNat, none⟩ = some (.int .i64 F) := fun j => cell_below (HF.out j) q1 (cell_lt q1)
      have f2 : ∀ j, (φ j).cell? ⟨vb, voff + i * 3 + 2, none⟩ = some (.int .i64 lz) := fun j => cell_below (HW.out j) d2 hvb
      have HN : Hid (∀ j, Calls Try.prog 40 #[.agg #[.int .i64 (N:Int), .slice (some ⟨vb, voff, none⟩) vm vcap], .int .i64 a, .int .i64 m] (φ j) fun e w' => e = .returned (.int .i64 (i:Int)) ∧ Below (φ j).heap.size (φ j) w') := Lib.hid fun j => by
        rw [← HLK.out]; exact iLinkOf (N:Int) ls a m _ _ (HV.out.below (HW.out j) (Nat.le_refl _)) (by have := HG.out.len; omega)
      clear q0 q1 d2 e0 hG
      rcases Bool.eq_false_or_eq_true (E + lz == F) with t2 | t2
      · have ht : Hid (E + lz = F) := Lib.hid (by simpa using t2)
        refine wp_region_fam φ H0.out (by kernel_rfl) (by kernel_rfl) ?_
        repeat (go_big_quiet_step (first | (go_at_call 40; exact quiet_fam HF.out HBs.out HMK.out (HN.out _))))
        refine wpQuiet_nil ?_
        intro _ hw'
        obtain ⟨nq, hw''⟩ := hw'
        subst hw''
        have hb := HF.out nq
        obtain ⟨w3, hw2⟩ : ∃ x, φ nq = x := ⟨_, rfl⟩
        rw [hw2] at hb ⊢
        clear hw2
        have HB2 := Lib.hid (HBL.out.trans (hb.mono HBL.out.size))
        have HR2 := Lib.hid (((OwnR.of HR.out).below hb (Nat.le_refl _)).1)
        have HO2 := Lib.hid (((OwnR.of HO.out).below hb (Nat.le_refl _)).1)
        have HG2 := Lib.hid (HGX.out.below hb HGX.out.lt)
        have HN2 := Lib.hid (HNB.out.below hb hsw)
        have hsw2 : w2.heap.size ≤ w3.heap.size := Nat.le_trans hsw hb.size
        have hs3 := HB2.out.size
        have hws := HG2.out.lt
        clear hb HR HO HBL HGX HNB
        go_wp2_with (at_builtin; refine wpList_append_rd rfl _ _ _ rfl (w.heap.size + 1) 3 i0 _ 1 8 Try.underlying26 HI.out HZ0.out HZ1.out HZ2.out rfl (by omega) (.slice (some ⟨g, 0, none⟩) p.length c) p.length (p.map (Value.int .i64)) rfl (by with_reducible (repeat (first | exact HR2.out | apply own_drewN | apply own_drew | apply World.ownsRow.alloc | (refine own_setCell ?_ (by first | (simp; done) | omega | (simp; omega)) _)))) (some ⟨w3.heap.size, 0, none⟩) 1 1 [.int .i64 m] rfl (srcAt_one (box_new _ #[.int .i64 m] _) rfl) (one_ok _ _) (by unfold maxLen; omega) (by omega) (by simp; omega) ?_; intro v' w4 hown3 hgrow hloc)
        have hB3 : Below w.heap.size w w4 := Below.grown (by have := HB2.out; exact (by with_reducible (repeat (first | (refine below_drewN ?_ _) | (refine Below.drew ?_) | (refine below_alloc ?_ (by first | omega | (simp; done) | (simp; omega)) _) | (refine Below.setCell ?_ (by first | omega | (simp; done) | (simp; omega)) _) | exact Below.refl _ _ | assumption | (refine below_call ?_ (by first | omega | (simp; done) | (simp; omega)) (by assumption)))))) hgrow (by simp; omega) (fun j hj => by have := (HR2.out.lt j hj).1; omega)
        have hO3 : w4.ownsRow w.heap.size 3 1 (.slice (some ⟨g1, 0, none⟩) d.length c1) d.length (d.map (Value.int .i64)) := (HO2.out.alloc _).kept hgrow (.inr (by simp [Value.ownBlock]; omega))
        have hN3 : OwnR w4 w1.heap.size w2.heap.size 3 1 (.slice (some ⟨g2, 0, none⟩) M gc) M (r.map (Value.int .i64)) := (HN2.out.alloc _).kept hgrow (fun z hz e => HGZ.out z hz (by simpa [Value.ownBlock] using e.symm))
        have hG3 := (HG2.out.alloc (.cells #[.int .i64 m] 3)).grown hgrow (fun j hj => by have := (HR2.out.lt j hj).1; omega)
        have hs4 := hgrow.size
        obtain ⟨g3, c3, rfl, hlo3⟩ := own_pos hown3 (by omega)
        have hg3 : ¬ g3 = g1 := by
          have h1 := (HO2.out.lt g1 rfl).2
          rcases hloc with h | h
          · have h2 : g3 = g := by simpa [Value.ownBlock] using h
            omega
          · simp [Value.ownBlock] at h; omega
        have hgz3 : ∀ z, (Value.slice (some ⟨g2, 0, none⟩) M gc).ownBlock = some z → ¬ z = g3 := by
          intro z hz e
          rcases hloc with h | h
          · have h2 : g3 = g := by simpa [Value.ownBlock] using h
            exact HGZ.out z hz (by omega)
          · have h1 := (HN2.out.lt z hz).2.2
            simp [Value.ownBlock] at h; omega
        have hs5 : w2.heap.size ≤ w4.heap.size := by simp at hs4; omega
        have HB3 := Lib.hid hB3; have HR3 := Lib.hid hown3; have HO3 := Lib.hid hO3; have HG3 := Lib.hid hG3; have HN3 := Lib.hid hN3; have HZ3 := Lib.hid hgz3
        clear hB3 hgrow hown3 hloc hO3 hG3 hN3 hgz3 hs4
        go_wp2_with fail
        go_roundw
        case rel =>
          refine ⟨k + 1, g3, c3, by omega, by go_num, ?_, ?_, hg3, HZ3.out, HO3.out, HN3.out, HB3.out, hs5, HG3.out⟩
          · rw [HSN.out, if_pos ht.out]; simp
          · have := HR3.out
            rw [map_snoc] at this
            rw [HSN.out, if_pos ht.out]
            simpa using this
        case measure => simp [intOf]; omega
      · have ht : Hid (¬ E + lz = F) := Lib.hid (by simpa using t2)
        refine wp_region_fam φ H0.out (by kernel_rfl) (by kernel_rfl) ?_
        repeat (go_big_quiet_step (first | (go_at_call 40; exact quiet_fam HF.out HBs.out HMK.out (HN.out _))))
        refine wpQuiet_nil ?_
        intro _ hw'
        obtain ⟨nq, hw''⟩ := hw'
        subst hw''
        have hb := HF.out nq
        obtain ⟨w3, hw2⟩ : ∃ x, φ nq = x := ⟨_, rfl⟩
        rw [hw2] at hb ⊢
        clear hw2
        have HB2 := Lib.hid (HBL.out.trans (hb.mono HBL.out.size))
        have HR2 := Lib.hid (((OwnR.of HR.out).below hb (Nat.le_refl _)).1)
        have HO2 := Lib.hid (((OwnR.of HO.out).below hb (Nat.le_refl _)).1)
        have HG2 := Lib.hid (HGX.out.below hb HGX.out.lt)
        have HN2 := Lib.hid (HNB.out.below hb hsw)
        have hsw2 : w2.heap.size ≤ w3.heap.size := Nat.le_trans hsw hb.size
        clear hb HR HO HBL HGX HNB
        go_wp2_with fail
        go_roundw
        case rel =>
          refine ⟨k + 1, g, c, by omega, by go_num, ?_, ?_, hgg, HGZ.out, HO2.out, HN2.out, HB2.out, hsw2, HG2.out⟩
          · rw [HSN.out, if_neg ht.out]; simp
          · rw [HSN.out, if_neg ht.out]; simpa using HR2.out
        case measure => simp [intOf]; omega
    · obtain rfl : k = M := by omega
      go_wp2_with fail
      go_ret
      have hp : hopsG (N:Int) ls a b = p := by rw [← HP.out, HM.out, ← HRR.out]; exact (hopsN_all HG.out HA.out HB.out (by rw [HDF.out]; omega)).symm
      rw [hp]
      exact ⟨_, rfl, (OwnR.of HR.out).mono (by omega) (Nat.le_refl _), HBL.out⟩
end Go.Proofs.Ytoebefpmfgkpoaa
namespace Go.Proofs.Ytoebefpmfgkpoaa
set_option linter.unusedSimpArgs false
set_option linter.unusedVariables false
open Go.RowKit

/-- The path with its first node; none where the end is out of reach. -/
def shP (n : Int) (ls : List LinkD) (a b : Int) : List Int := if 0 ≤ distG n ls b a then a :: spG n ls a b else []
theorem sp_end {n : Int} {ls : List LinkD} {b : Int} (hn : 1 ≤ n) : spG n ls b b = [] := by
  unfold spG
  obtain ⟨k, hk⟩ : ∃ k, n.toNat = k + 1 := ⟨n.toNat - 1, by omega⟩
  rw [hk, sp, if_pos rfl]
theorem sp_step {n : Int} {ls : List LinkD} (h : GOk n ls) {x b : Int} (hx : nd n.toNat x) (hb : nd n.toNat b) (h0 : 0 ≤ distG n ls b x) (hne : x ≠ b) :
    ∃ m t, hopsG n ls x b = m :: t ∧ spG n ls x b = m :: spG n ls m b ∧ nd n.toNat m ∧ 0 ≤ distG n ls b m ∧ rk n.toNat (distG n ls b) m < rk n.toNat (distG n ls b) x := by
  obtain ⟨m0, hm0⟩ := hop_ex h.fits.ok h.dst hb hx h0 hne
  rcases hh : hopsL n.toNat (cstL ls) (distG n ls b) x with _ | ⟨m, t⟩
  · rw [hh] at hm0; cases hm0
  · have hm : m ∈ hopsL n.toNat (cstL ls) (distG n ls b) x := by rw [hh]; exact List.mem_cons_self
    obtain ⟨h1, h2, h3, h4⟩ := mem_hopsL.1 hm
    have hr := rk_hop hm
    have hrx := rk_lt_N (E := distG n ls b) hx
    refine ⟨m, t, hh, ?_, h1, h3, hr⟩
    unfold spG
    obtain ⟨k, hk⟩ : ∃ k, n.toNat = k + 1 := ⟨n.toNat - 1, by have := h.n1; omega⟩
    have e : sp n.toNat (cstL ls) (distG n ls b) b n.toNat x = m :: sp n.toNat (cstL ls) (distG n ls b) b k m := by
      conv => lhs; rw [hk]
      rw [sp, if_neg hne, ← hk, hh]
    rw [e]
    congr 1
    exact sp_fuel h.fits.ok h.dst hb k n.toNat m h1 h3 (by omega) (rk_le _ _ _)
theorem spG_len (n : Int) (ls : List LinkD) (a b : Int) : (spG n ls a b).length ≤ n.toNat := sp_len _ _ _ _ _ _
set_option maxRecDepth 100000 in
set_option maxHeartbeats 4000000 in
theorem sPath (n : Int) (ls : List LinkD) (a b : Int) (v : Value) (w : World) (hv : TriplesAt w v ls) (h : GOk n ls) (ha : nd n.toNat a) (hb : nd n.toNat b) :
    Calls Try.prog 54 #[.agg #[.int .i64 n, v], .int .i64 a, .int .i64 b] w (MadeInts w (shP n ls a b)) := by
  have HV := Lib.hid hv
  obtain ⟨va, vm, vcap, rfl⟩ := hv.form
  have hn1 := h.n1
  have hn8 := h.n8
  have HG := Lib.hid h; have HA := Lib.hid ha; have HB := Lib.hid hb
  obtain ⟨i0, hi, hz0, hz1, hz2⟩ := info_parts infoI
  have HI := Lib.hid hi; have HZ0 := Lib.hid hz0; have HZ1 := Lib.hid hz1; have HZ2 := Lib.hid hz2
  clear h ha hb hv hi hz0 hz1 hz2
  by_cases h0 : 0 ≤ distG n ls b a
  · have HP : Hid (shP n ls a b = a :: spG n ls a b) := Lib.hid (by unfold shP; rw [if_pos h0])
    have H0 := Lib.hid h0
    clear h0
    go_enter Try.func54, Try.ntmps54
    go_wp2_with fail
    have HR0 : Hid (((w.alloc (.cells #[.int .i64 n, .slice va vm vcap] 25)).alloc (.cells #[.int .i64 a] 3)).ownsRow (w.heap.size + 1) 3 1 (.slice (some ⟨w.heap.size + 1, 0, none⟩) 1 1) 1 (([a] : List Int).map (Value.int .i64))) := Lib.hid (own_lit1 (box_at _ _ _ (by simp)) (Nat.le_refl _))
    have HB0 : Hid (Below w.heap.size w ((w.alloc (.cells #[.int .i64 n, .slice va vm vcap] 25)).alloc (.cells #[.int .i64 a] 3))) := Lib.hid (by with_reducible (repeat (first | (refine below_drewN ?_ _) | (refine Below.drew ?_) | (refine below_alloc ?_ (by first | omega | (simp; done) | (simp; omega)) _) | (refine Below.setCell ?_ (by first | omega | (simp; done) | (simp; omega)) _) | exact Below.refl _ _ | assumption | (refine below_call ?_ (by first | omega | (simp; done) | (simp; omega)) (by assumption)))))
    have HG0 := Lib.hid ((box_new w #[.int .i64 n, .slice va vm vcap] 25).alloc (.cells #[.int .i64 a] 3))
    go_loopw [1, 7] (fun fv ov wr => ∃ (x : Int) (q : List Int) (g c : Nat), fv = .int .i64 x ∧ nd n.toNat x ∧ 0 ≤ distG n ls b x ∧ ov = .slice (some ⟨g, 0, none⟩) (q.length + 1) c ∧ wr.ownsRow (w.heap.size + 1) 3 1 ov (q.length + 1) ((a :: q).map (Value.int .i64)) ∧ spG n ls a b = q ++ spG n ls x b ∧ Below w.heap.size w wr ∧ Box wr w.heap.size #[.int .i64 n, .slice va vm vcap] 25) (fun fv _ _ => rk n.toNat (distG n ls b) (intOf fv))
    case atStart => exact ⟨a, [], w.heap.size + 1, 1, rfl, HA.out, H0.out, rfl, HR0.out, rfl, HB0.out, HG0.out⟩
    case round =>
      obtain ⟨x, q, g, c, rfl, hx, hx0, rfl, hR, hq, hBl, hG⟩ := hrel
      clear HR0 HB0 HG0
      have HX := Lib.hid hx; have HX0 := Lib.hid hx0; have HR := Lib.hid hR; have HQ := Lib.hid hq; have HBL := Lib.hid hBl; have HGX := Lib.hid hG
      have hql : q.length ≤ 8 := by
        have h1 := spG_len n ls a b
        rw [hq, List.length_append] at h1
        omega
      obtain ⟨G_0, G_1, G_2, G_3, G_4⟩ := box2 hG
      clear hx hx0 hR hq hBl hG
      by_cases hxb : x = b
      · subst hxb
        have t0 : (x != x) = false := by simp
        go_wp2_with fail
        go_ret
        rw [HP.out, HQ.out, sp_end hn1, List.append_nil]
        exact ⟨_, rfl, (OwnR.of HR.out).mono (by omega) (Nat.le_refl _), HBL.out⟩
      have t0 : (x != b) = true := by simpa using hxb
      obtain ⟨m, t, hh, hsp, hm, hm0, hrk⟩ := sp_step HG.out HX.out HB.out HX0.out hxb
      have HH := Lib.hid hh; have HSP := Lib.hid hsp; have HM := Lib.hid hm; have HM0 := Lib.hid hm0; have HRK := Lib.hid hrk
      clear hxb hh hsp hm hm0 hrk
      go_wp2_with fail
      refine (sHops n ls x b _ _ (HV.out.below HBL.out (Nat.le_refl _)) HG.out HX.out HB.out).mono ?_
      rintro e w2 ⟨v2, rfl, hO, hb⟩
      rw [HH.out] at hO
      obtain ⟨g2, c2, hgc, hlo2⟩ := own_pos hO.1 (by simp)
      subst hgc
      obtain ⟨r0, _⟩ := own_at (q := m :: t) (k := 0) hO.1 rfl
      have tl : ((((m :: t).length : Nat) : Int) == 0) = false := by simp only [List.length_cons, beq_eq_false_iff_ne]; omega
      have tl2 : (0:Int) < (((m :: t).length : Nat) : Int) := by simp only [List.length_cons]; omega
      obtain ⟨L, hL⟩ : ∃ L, (m :: t).length = L := ⟨_, rfl⟩
      rw [hL] at tl tl2 ⊢
      have HB2 := Lib.hid (HBL.out.trans (hb.mono HBL.out.size))
      have HR2 := Lib.hid (((OwnR.of HR.out).below hb (Nat.le_refl _)).1)
      have HG2 := Lib.hid (HGX.out.below hb HGX.out.lt)
      have hs3 := HB2.out.size
      have hws := HG2.out.lt
      clear hb HR HBL HGX hO hL G_0 G_1 G_2 G_3 G_4
      go_wp2_with (at_builtin; refine wpList_append_rd rfl _ _ _ rfl (w.heap.size + 1) 3 i0 _ 1 8 Try.underlying26 HI.out HZ0.out HZ1.out HZ2.out rfl (by omega) (.slice (some ⟨g, 0, none⟩) (q.length + 1) c) (q.length + 1) ((a :: q).map (Value.int .i64)) rfl (by with_reducible (repeat (first | exact HR2.out | apply own_drewN | apply own_drew | apply World.ownsRow.alloc | (refine own_setCell ?_ (by first | (simp; done) | omega | (simp; omega)) _)))) (some ⟨w2.heap.size, 0, none⟩) 1 1 [.int .i64 m] rfl (srcAt_one (box_new _ #[.int .i64 m] _) rfl) (one_ok _ _) (by unfold maxLen; omega) (by omega) (by simp; omega) ?_; intro v' w4 hown3 hgrow hloc)
      have hB3 : Below w.heap.size w w4 := Below.grown (by have := HB2.out; exact (by with_reducible (repeat (first | (refine below_drewN ?_ _) | (refine Below.drew ?_) | (refine below_alloc ?_ (by first | omega | (simp; done) | (simp; omega)) _) | (refine Below.setCell ?_ (by first | omega | (simp; done) | (simp; omega)) _) | exact Below.refl _ _ | assumption | (refine below_call ?_ (by first | omega | (simp; done) | (simp; omega)) (by assumption)))))) hgrow (by simp; omega) (fun j hj => by have := (HR2.out.lt j hj).1; omega)
      have hG3 := (HG2.out.alloc (.cells #[.int .i64 m] 3)).grown hgrow (fun j hj => by have := (HR2.out.lt j hj).1; omega)
      obtain ⟨g3, c3, rfl, hlo3⟩ := own_pos hown3 (by omega)
      have HB3 := Lib.hid hB3; have HR3 := Lib.hid hown3; have HG3 := Lib.hid hG3
      clear hB3 hgrow hown3 hloc hG3
      go_wp2_with fail
      go_roundw
      case rel =>
        refine ⟨m, q ++ [m], g3, c3, rfl, HM.out, HM0.out, ?_, ?_, ?_, HB3.out, HG3.out⟩
        · rw [List.length_append]; rfl
        · have := HR3.out
          rw [map_snoc] at this
          simpa using this
        · rw [HQ.out, HSP.out, List.append_assoc]; rfl
      case measure => exact HRK.out
  · have HP : Hid (shP n ls a b = []) := Lib.hid (by unfold shP; rw [if_neg h0])
    have hne : a ≠ b := by
      rintro rfl
      rw [HG.out.dst.self HG.out.fits.ok HA.out] at h0
      exact h0 (Int.le_refl _)
    have HN := Lib.hid (hops_none HG.out HA.out HB.out (.inr (by omega)))
    have t0 : (a != b) = true := by simpa using hne
    clear h0 hne
    go_enter Try.func54, Try.ntmps54
    go_wp2_with fail
    refine wp_loop_rounds 1 ?_
    rw [rounds_succ]
    go_wp2_with fail
    refine (sHops n ls a b _ _ (HV.out.below (by with_reducible (repeat (first | (refine below_drewN ?_ _) | (refine Below.drew ?_) | (refine below_alloc ?_ (by first | omega | (simp; done) | (simp; omega)) _) | (refine Below.setCell ?_ (by first | omega | (simp; done) | (simp; omega)) _) | exact Below.refl _ _ | assumption | (refine below_call ?_ (by first | omega | (simp; done) | (simp; omega)) (by assumption))))) (Nat.le_refl _)) HG.out HA.out HB.out).mono ?_
    rintro e w2 ⟨v2, rfl, hO, hb⟩
    rw [HN.out] at hO
    obtain ⟨oa, oc, rfl⟩ := own_slice hO.1
    have tl : ((((([] : List Int).length : Nat)) : Int) == 0) = true := by simp
    have BW := Lib.hid (below_call (B := w.heap.size) (a := w) (by with_reducible (repeat (first | (refine below_drewN ?_ _) | (refine Below.drew ?_) | (refine below_alloc ?_ (by first | omega | (simp; done) | (simp; omega)) _) | (refine Below.setCell ?_ (by first | omega | (simp; done) | (simp; omega)) _) | exact Below.refl _ _ | assumption | (refine below_call ?_ (by first | omega | (simp; done) | (simp; omega)) (by assumption))))) (Nat.le_refl _) hb)
    clear hb hO
    go_wp2_with fail
    go_ret
    rw [MadeInts, HP.out]
    have hs := BW.out.size
    have hB := BW.out
    exact ⟨_, rfl, OwnR.of (own_empty w2 w.heap.size 3 1 hs), (by with_reducible (repeat (first | (refine below_drewN ?_ _) | (refine Below.drew ?_) | (refine below_alloc ?_ (by first | omega | (simp; done) | (simp; omega)) _) | (refine Below.setCell ?_ (by first | omega | (simp; done) | (simp; omega)) _) | exact Below.refl _ _ | assumption | (refine below_call ?_ (by first | omega | (simp; done) | (simp; omega)) (by assumption)))))⟩
end Go.Proofs.Ytoebefpmfgkpoaa
namespace Go.Proofs.Ytoebefpmfgkpoaa
set_option linter.unusedSimpArgs false
set_option linter.unusedVariables false
open Go.RowKit

set_option maxRecDepth 100000 in
set_option maxHeartbeats 4000000 in
theorem iPath (n : Int) (ls : List LinkD) (a b : Int) (v : Value) (w : World) (hv : TriplesAt w v ls) (h : GOk n ls) (ha : nd n.toNat a) (hb : nd n.toNat b) :
    Calls Try.prog 47 #[.agg #[.int .i64 n, v], .int .i64 a, .int .i64 b] w (MadeInts w (shP n ls a b)) := by
  have HV := Lib.hid hv
  obtain ⟨va, vm, vcap, rfl⟩ := hv.form
  have hn1 := h.n1
  have hn8 := h.n8
  have HG := Lib.hid h; have HA := Lib.hid ha; have HB := Lib.hid hb
  obtain ⟨i0, hi, hz0, hz1, hz2⟩ := info_parts infoI
  have HI := Lib.hid hi; have HZ0 := Lib.hid hz0; have HZ1 := Lib.hid hz1; have HZ2 := Lib.hid hz2
  clear h ha hb hv hi hz0 hz1 hz2
  have hai := HG.out.nN.1 HA.out
  obtain ⟨ha0, ha1⟩ := hai
  obtain ⟨d, hd⟩ : ∃ d, distL n ls b = d := ⟨_, rfl⟩
  have HD := Lib.hid hd
  have HL : Hid (d.length = n.toNat) := Lib.hid (by rw [← hd]; exact distL_len n ls b)
  obtain ⟨F, hF⟩ : ∃ F, atD d a = F := ⟨_, rfl⟩
  have HF := Lib.hid hF
  have HDF : Hid (distG n ls b a = F) := Lib.hid (by unfold distG; rw [hd, hF])
  have had : a < (d.length:Int) := by have := HL.out; omega
  clear hd hF
  go_enter Try.func47, Try.ntmps47
  go_wp2_with fail
  refine (iDist n ls b _ _ (HV.out.below (by with_reducible (repeat (first | (refine below_drewN ?_ _) | (refine Below.drew ?_) | (refine below_alloc ?_ (by first | omega | (simp; done) | (simp; omega)) _) | (refine Below.setCell ?_ (by first | omega | (simp; done) | (simp; omega)) _) | exact Below.refl _ _ | assumption | (refine below_call ?_ (by first | omega | (simp; done) | (simp; omega)) (by assumption))))) (Nat.le_refl _)) HG.out HB.out).mono ?_
  rintro e w1 ⟨v1, rfl, hO, hb⟩
  have G := Lib.hid (Box.call (b := w.heap.size) (c := #[.int .i64 n, .slice va vm vcap]) (t := 25) hb (by with_reducible (repeat (first | (refine box_at _ _ _ ?_; first | rfl | (simp; done)) | apply Box.alloc | apply Box.drewN | apply Box.drew))))
  obtain ⟨G_0, G_1, G_2, G_3, G_4⟩ := box2 G.out
  have BW := Lib.hid (below_call (B := w.heap.size) (a := w) (by with_reducible (repeat (first | (refine below_drewN ?_ _) | (refine Below.drew ?_) | (refine below_alloc ?_ (by first | omega | (simp; done) | (simp; omega)) _) | (refine Below.setCell ?_ (by first | omega | (simp; done) | (simp; omega)) _) | exact Below.refl _ _ | assumption | (refine below_call ?_ (by first | omega | (simp; done) | (simp; omega)) (by assumption))))) (Nat.le_refl _) hb)
  rw [HD.out] at hO
  obtain ⟨g1, c1, hgc, hlo1⟩ := own_pos hO.1 (by omega)
  subst hgc
  obtain ⟨q1, _⟩ := row_at hO.1 rfl (show nd d.length a by rw [HL.out]; exact HA.out)
  rw [HF.out] at q1
  clear hb hO hlo1
  by_cases hF0 : F < 0
  · have t1 : decide (F < 0) = true := by simpa using hF0
    have HP : Hid (shP n ls a b = []) := Lib.hid (by unfold shP; rw [if_neg (by rw [HDF.out]; omega)])
    go_wp2_with fail
    go_ret
    rw [MadeInts, HP.out]
    exact ⟨_, rfl, ⟨⟨rfl, .inl ⟨rfl, rfl⟩⟩, fun g hg => by simp [Value.ownBlock] at hg⟩, BW.out⟩
  have t1 : decide (F < 0) = false := by simpa using hF0
  have HP : Hid (shP n ls a b = a :: spG n ls a b) := Lib.hid (by unfold shP; rw [if_pos (by rw [HDF.out]; omega)])
  have H0 : Hid (0 ≤ distG n ls b a) := Lib.hid (by rw [HDF.out]; omega)
  go_wp2_with fail
  have hsz := BW.out.size
  have HR0 : Hid ((w1.alloc (.cells #[.int .i64 a] 3)).ownsRow (w.heap.size + 1) 3 1 (.slice (some ⟨w1.heap.size, 0, none⟩) 1 1) 1 (([a] : List Int).map (Value.int .i64))) := Lib.hid (own_lit1 (box_new _ _ _) G_4)
  have HB0 : Hid (Below w.heap.size w (w1.alloc (.cells #[.int .i64 a] 3))) := Lib.hid (BW.out.alloc hsz _)
  have HG0 := Lib.hid (G.out.alloc (.cells #[.int .i64 a] 3))
  clear G_0 G_1 G_2 G_3 G_4 q1 hsz
  go_loopw [1, 7] (fun fv ov wr => ∃ (x : Int) (q : List Int) (g c : Nat), fv = .int .i64 x ∧ nd n.toNat x ∧ 0 ≤ distG n ls b x ∧ ov = .slice (some ⟨g, 0, none⟩) (q.length + 1) c ∧ wr.ownsRow (w.heap.size + 1) 3 1 ov (q.length + 1) ((a :: q).map (Value.int .i64)) ∧ spG n ls a b = q ++ spG n ls x b ∧ Below w.heap.size w wr ∧ Box wr w.heap.size #[.int .i64 n, .slice va vm vcap] 25) (fun fv _ _ => rk n.toNat (distG n ls b) (intOf fv))
  case atStart => exact ⟨a, [], w1.heap.size, 1, rfl, HA.out, H0.out, rfl, HR0.out, rfl, HB0.out, HG0.out⟩
  case round =>
    obtain ⟨x, q, g, c, rfl, hx, hx0, rfl, hR, hq, hBl, hG⟩ := hrel
    clear HR0 HB0 HG0 BW G
    have HX := Lib.hid hx; have HX0 := Lib.hid hx0; have HR := Lib.hid hR; have HQ := Lib.hid hq; have HBL := Lib.hid hBl; have HGX := Lib.hid hG
    have hql : q.length ≤ 8 := by
      have h1 := spG_len n ls a b
      rw [hq, List.length_append] at h1
      omega
    obtain ⟨G_0, G_1, G_2, G_3, G_4⟩ := box2 hG
    clear hx hx0 hR hq hBl hG
    by_cases hxb : x = b
    · subst hxb
      have t0 : (x != x) = false := by simp
      go_wp2_with fail
      go_ret
      rw [HP.out, HQ.out, sp_end hn1, List.append_nil]
      exact ⟨_, rfl, (OwnR.of HR.out).mono (by omega) (Nat.le_refl _), HBL.out⟩
    have t0 : (x != b) = true := by simpa using hxb
    obtain ⟨m, t, hh, hsp, hm, hm0, hrk⟩ := sp_step HG.out HX.out HB.out HX0.out hxb
    have HH := Lib.hid hh; have HSP := Lib.hid hsp; have HM := Lib.hid hm; have HM0 := Lib.hid hm0; have HRK := Lib.hid hrk
    clear hxb hh hsp hm hm0 hrk
    go_wp2_with fail
    refine (iHops n ls x b _ _ (HV.out.below HBL.out (Nat.le_refl _)) HG.out HX.out HB.out).mono ?_
    rintro e w2 ⟨v2, rfl, hO, hb⟩
    rw [HH.out] at hO
    obtain ⟨g2, c2, hgc, hlo2⟩ := own_pos hO.1 (by simp)
    subst hgc
    obtain ⟨r0, _⟩ := own_at (q := m :: t) (k := 0) hO.1 rfl
    have tl : ((((m :: t).length : Nat) : Int) == 0) = false := by simp only [List.length_cons, beq_eq_false_iff_ne]; omega
    have tl2 : (0:Int) < (((m :: t).length : Nat) : Int) := by simp only [List.length_cons]; omega
    obtain ⟨L, hL⟩ : ∃ L, (m :: t).length = L := ⟨_, rfl⟩
    rw [hL] at tl tl2 ⊢
    have HB2 := Lib.hid (HBL.out.trans (hb.mono HBL.out.size))
    have HR2 := Lib.hid (((OwnR.of HR.out).below hb (Nat.le_refl _)).1)
    have HG2 := Lib.hid (HGX.out.below hb HGX.out.lt)
    have hs3 := HB2.out.size
    have hws := HG2.out.lt
    clear hb HR HBL HGX hO hL G_0 G_1 G_2 G_3 G_4
    go_wp2_with (at_builtin; refine wpList_append_rd rfl _ _ _ rfl (w.heap.size + 1) 3 i0 _ 1 8 Try.underlying26 HI.out HZ0.out HZ1.out HZ2.out rfl (by omega) (.slice (some ⟨g, 0, none⟩) (q.length + 1) c) (q.length + 1) ((a :: q).map (Value.int .i64)) rfl (by with_reducible (repeat (first | exact HR2.out | apply own_drewN | apply own_drew | apply World.ownsRow.alloc | (refine own_setCell ?_ (by first | (simp; done) | omega | (simp; omega)) _)))) (some ⟨w2.heap.size, 0, none⟩) 1 1 [.int .i64 m] rfl (srcAt_one (box_new _ #[.int .i64 m] _) rfl) (one_ok _ _) (by unfold maxLen; omega) (by omega) (by simp; omega) ?_; intro v' w4 hown3 hgrow hloc)
    have hB3 : Below w.heap.size w w4 := Below.grown (by have := HB2.out; exact (by with_reducible (repeat (first | (refine below_drewN ?_ _) | (refine Below.drew ?_) | (refine below_alloc ?_ (by first | omega | (simp; done) | (simp; omega)) _) | (refine Below.setCell ?_ (by first | omega | (simp; done) | (simp; omega)) _) | exact Below.refl _ _ | assumption | (refine below_call ?_ (by first | omega | (simp; done) | (simp; omega)) (by assumption)))))) hgrow (by simp; omega) (fun j hj => by have := (HR2.out.lt j hj).1; omega)
    have hG3 := (HG2.out.alloc (.cells #[.int .i64 m] 3)).grown hgrow (fun j hj => by have := (HR2.out.lt j hj).1; omega)
    obtain ⟨g3, c3, rfl, hlo3⟩ := own_pos hown3 (by omega)
    have HB3 := Lib.hid hB3; have HR3 := Lib.hid hown3; have HG3 := Lib.hid hG3
    clear hB3 hgrow hown3 hloc hG3
    go_wp2_with fail
    go_roundw
    case rel =>
      refine ⟨m, q ++ [m], g3, c3, rfl, HM.out, HM0.out, ?_, ?_, ?_, HB3.out, HG3.out⟩
      · rw [List.length_append]; rfl
      · have := HR3.out
        rw [map_snoc] at this
        simpa using this
      · rw [HQ.out, HSP.out, List.append_assoc]; rfl
    case measure => exact HRK.out
end Go.Proofs.Ytoebefpmfgkpoaa
