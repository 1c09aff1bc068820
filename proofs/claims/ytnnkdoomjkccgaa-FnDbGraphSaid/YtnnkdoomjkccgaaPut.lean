/- l11Put, DbPut of the reference: what they return is putD, putOf, in new memory. -/
import Derived.Test.YtnnkdoomjkccgaaOne
import Derived.Test.YtnnkdoomjkccgaaFind
import Derived.Test.YtnnkdoomjkccgaaDb
import Derived.Test.YtnnkdoomjkccgaaPurePut
namespace Go.Proofs.Ytnnkdoomjkccgaa
set_option linter.unusedSimpArgs false
set_option linter.unusedVariables false
open Go.RowKit

theorem put_class {db : List LsaD} {l : LsaD} {fo fs : Int} {fes : List (Int × Int)} {fk : Bool} (hr : findR db l.1 = ((fo, fs, fes), fk)) :
    (fk = true ∧ fs = l.2.1 ∧ putD db l = (db, 1)) ∨ (fk = true ∧ l.2.1 < fs ∧ putD db l = (db, 2)) ∨ (putD db l = (insD db l, 0) ∧ ((fk = true ∧ (fs == l.2.1) = false ∧ decide (l.2.1 < fs) = false) ∨ fk = false)) := by
  rcases hfd : findD db l.1 with _ | ⟨go', gs, ges⟩
  · rw [findR_no hfd] at hr
    simp only [Prod.mk.injEq] at hr
    exact .inr (.inr ⟨putD_new hfd, .inr hr.2.symm⟩)
  · rw [findR_yes hfd] at hr
    simp only [Prod.mk.injEq] at hr
    obtain ⟨⟨rfl, rfl, rfl⟩, rfl⟩ := hr
    rcases Int.lt_trichotomy gs l.2.1 with hc | hc | hc
    · exact .inr (.inr ⟨putD_newer hfd hc, .inl ⟨rfl, by simp; omega, by simp; omega⟩⟩)
    · exact .inl ⟨rfl, hc, putD_same hfd hc⟩
    · exact .inr (.inl ⟨rfl, hc, putD_older hfd hc⟩)
def MadePut (w : World) (r : List LsaD × Int) (e : Ending) (w' : World) : Prop := ∃ v us, e = .returned (.tuple #[v, .int .i64 r.2]) ∧ OwnLs w' w.heap.size w'.heap.size 41 43 v r.1 us ∧ Below w.heap.size w w'
theorem MadeLs.lo {w w0 w' : World} {db : List LsaD} {v : Value} {us : List Value} (h : OwnLs w' w.heap.size w'.heap.size 41 43 v db us) (hb : w0.heap.size ≤ w.heap.size) : OwnLs w' w0.heap.size w'.heap.size 41 43 v db us := h.mono hb (Nat.le_refl _)
set_option maxRecDepth 100000 in
set_option maxHeartbeats 2000000 in
theorem l11Put_any (db : List LsaD) (o s : Int) (es : List (Int × Int)) (v u : Value) (w : World) (hv : LsasAt w v db) (hu : PairsAt w u es) (hs : ascD db) (hsm : SmallDb db) (hes : es.length ≤ 1048576) :
    Calls Try.prog 90 #[v, .agg #[.int .i64 o, .int .i64 s, u]] w (MadePut w (putD db (o, s, es))) := by
  have HV := Lib.hid hv; have HU := Lib.hid hu
  obtain ⟨a, cap, b, off, rfl, hcap, hmax, ha, hc⟩ := hv
  obtain ⟨ua, un, uc, rfl⟩ := hu.form
  unfold maxLen at hmax
  obtain ⟨i0, hi, hz0, hz1, hz2⟩ := info_parts infoL
  obtain ⟨n, hn⟩ : ∃ n, n = db.length := ⟨_, rfl⟩
  have hn2 : n ≤ 1048576 := by rw [hn]; exact hsm.1
  rw [← hn] at hcap ha HV ⊢
  have HN := Lib.hid hn; clear hn
  have HC := Lib.hid hc; clear hc
  have HA := Lib.hid ha; clear ha
  have HSM := Lib.hid hsm; have HS := Lib.hid hs; have HES := Lib.hid hes
  have HI := Lib.hid hi; have HZ0 := Lib.hid hz0; have HZ1 := Lib.hid hz1; have HZ2 := Lib.hid hz2
  clear hi hz0 hz1 hz2 hsm hs hu hes
  obtain ⟨⟨fd, fk⟩, hf⟩ : ∃ r, findR db o = r := ⟨_, rfl⟩
  obtain ⟨fo, fs, fes⟩ := fd
  have HF := Lib.hid hf
  clear hf
  go_enter Try.func90, Try.ntmps90
  go_wp2_with fail
  refine (l11Find_any db o _ _ (HV.out.below (by with_reducible (repeat (first | (refine below_drewN ?_ _) | (refine Below.drew ?_) | (refine below_alloc ?_ (by first | omega | (simp; done) | (simp; omega)) _) | (refine Below.setCell ?_ (by first | omega | (simp; done) | (simp; omega)) _) | exact Below.refl _ _ | assumption | (refine below_call ?_ (by first | omega | (simp; done) | (simp; omega)) (by assumption))))) (Nat.le_refl _))).mono ?_
  rw [HF.out]
  rintro e w1 ⟨fu, rfl, hfu, hb1⟩
  obtain ⟨fa, fn, fc, rfl⟩ := hfu.form
  have BW := Lib.hid (Below.refl w.heap.size w)
  have kk := Lib.hid (below_call (B := w.heap.size) (a := w) (by with_reducible (repeat (first | (refine below_drewN ?_ _) | (refine Below.drew ?_) | (refine below_alloc ?_ (by first | omega | (simp; done) | (simp; omega)) _) | (refine Below.setCell ?_ (by first | omega | (simp; done) | (simp; omega)) _) | exact Below.refl _ _ | assumption | (refine below_call ?_ (by first | omega | (simp; done) | (simp; omega)) (by assumption))))) (Nat.le_refl _) hb1)
  replace BW := Lib.hid (BW.out.trans (kk.out.mono BW.out.size))
  have L := Lib.hid (Box.call (b := w.heap.size) (c := #[.int .i64 o, .int .i64 s, .slice ua un uc]) (t := 41) hb1 (by with_reducible (repeat (first | (refine box_at _ _ _ ?_; first | rfl | (simp; done)) | apply Box.alloc | apply Box.drewN | apply Box.drew))))
  obtain ⟨L_0, L_1, L_2, L_3, L_4, L_5, L_6⟩ := box3 L.out
  have hsw := BW.out.size
  have hsL := L.out.lt
  clear hb1 kk hfu
  have H1 := Lib.hid (HV.out.below BW.out (Nat.le_refl _))
  rcases put_class (l := (o, s, es)) HF.out with ⟨rfl, hc, hp⟩ | ⟨rfl, hc, hp⟩ | ⟨hp, hg⟩
  · simp only at hc
    subst hc
    have e1 : (fs == fs) = true := by simp
    have HP := Lib.hid hp
    clear hp
    go_wp2_with fail
    refine (l11Copy_any db _ _ (H1.out.below (by with_reducible (repeat (first | (refine below_drewN ?_ _) | (refine Below.drew ?_) | (refine below_alloc ?_ (by first | omega | (simp; done) | (simp; omega)) _) | (refine Below.setCell ?_ (by first | omega | (simp; done) | (simp; omega)) _) | exact Below.refl _ _ | assumption | (refine below_call ?_ (by first | omega | (simp; done) | (simp; omega)) (by assumption))))) (Nat.le_refl _)) HSM.out).mono ?_
    rintro e w2 ⟨r, us, rfl, hO, hb⟩
    have hB2 := below_call (B := w1.heap.size) (a := w1) (by with_reducible (repeat (first | (refine below_drewN ?_ _) | (refine Below.drew ?_) | (refine below_alloc ?_ (by first | omega | (simp; done) | (simp; omega)) _) | (refine Below.setCell ?_ (by first | omega | (simp; done) | (simp; omega)) _) | exact Below.refl _ _ | assumption | (refine below_call ?_ (by first | omega | (simp; done) | (simp; omega)) (by assumption))))) (Nat.le_refl _) hb
    go_wp2_with fail
    go_ret2
    rw [HP.out]
    exact ⟨r, us, rfl, hO.mono (by simp; omega) (Nat.le_refl _), BW.out.trans (hB2.mono hsw)⟩
  · simp only at hc
    have e1 : (fs == s) = false := by simp; omega
    have e2 : decide (s < fs) = true := by simp; omega
    have HP := Lib.hid hp
    clear hp hc
    go_wp2_with fail
    refine (l11Copy_any db _ _ (H1.out.below (by with_reducible (repeat (first | (refine below_drewN ?_ _) | (refine Below.drew ?_) | (refine below_alloc ?_ (by first | omega | (simp; done) | (simp; omega)) _) | (refine Below.setCell ?_ (by first | omega | (simp; done) | (simp; omega)) _) | exact Below.refl _ _ | assumption | (refine below_call ?_ (by first | omega | (simp; done) | (simp; omega)) (by assumption))))) (Nat.le_refl _)) HSM.out).mono ?_
    rintro e w2 ⟨r, us, rfl, hO, hb⟩
    have hB2 := below_call (B := w1.heap.size) (a := w1) (by with_reducible (repeat (first | (refine below_drewN ?_ _) | (refine Below.drew ?_) | (refine below_alloc ?_ (by first | omega | (simp; done) | (simp; omega)) _) | (refine Below.setCell ?_ (by first | omega | (simp; done) | (simp; omega)) _) | exact Below.refl _ _ | assumption | (refine below_call ?_ (by first | omega | (simp; done) | (simp; omega)) (by assumption))))) (Nat.le_refl _) hb
    go_wp2_with fail
    go_ret2
    rw [HP.out]
    exact ⟨r, us, rfl, hO.mono (by simp; omega) (Nat.le_refl _), BW.out.trans (hB2.mono hsw)⟩
  simp only at hg
  have HP := Lib.hid hp
  have hR0 : RowLs ((w1.alloc (.cells #[.int .i64 fo, .int .i64 fs, .slice fa fn fc] 41)).alloc (.cells #[] 41)) w1.heap.size (.slice (some ⟨w1.heap.size + 1, 0, none⟩) 0 0) [] [] := rowLs_new (by simp) (by omega)
  have hB0 : Below w.heap.size w ((w1.alloc (.cells #[.int .i64 fo, .int .i64 fs, .slice fa fn fc] 41)).alloc (.cells #[] 41)) := by have hB := BW.out; exact (by with_reducible (repeat (first | (refine below_drewN ?_ _) | (refine Below.drew ?_) | (refine below_alloc ?_ (by first | omega | (simp; done) | (simp; omega)) _) | (refine Below.setCell ?_ (by first | omega | (simp; done) | (simp; omega)) _) | exact Below.refl _ _ | assumption | (refine below_call ?_ (by first | omega | (simp; done) | (simp; omega)) (by assumption)))))
  have HR0 := Lib.hid hR0; have HB0 := Lib.hid hB0
  have HL0 := Lib.hid ((L.out.alloc (.cells #[.int .i64 fo, .int .i64 fs, .slice fa fn fc] 41)).alloc (.cells #[] 41))
  clear hp hR0 hB0
  rcases hg with ⟨rfl, e1, e2⟩ | rfl
  all_goals
    go_wp2_with fail
    go_loopw [8, 9] (fun ov i wr => ∃ (k : Nat) (us : List Value), k ≤ n ∧ i = .int .i64 k ∧ RowLs wr w1.heap.size ov (db.take k) us ∧ Hid (∀ (j : Nat) (d : LsaD), j < k → db[j]? = some d → d.1 < o) ∧ Box wr w.heap.size #[.int .i64 o, .int .i64 s, .slice ua un uc] 41 ∧ Below w.heap.size w wr ∧ w1.heap.size ≤ wr.heap.size) (fun _ i _ => n - (intOf i).toNat)
    case atStart => exact ⟨0, [], Nat.zero_le _, rfl, HR0.out, Lib.hid (fun j d hj => by omega), HL0.out, HB0.out, by simp; omega⟩
    case round =>
      obtain ⟨k, us, hk, rfl, hR, HLT, hL, hB, hsz⟩ := hrel
      clear HR0 HB0 HL0 L_0 L_1 L_2 L_3 L_4 L_5 L_6
      obtain ⟨L_0, L_1, L_2, L_3, L_4, L_5, L_6⟩ := box3 hL
      obtain ⟨oa, oc, rfl⟩ := own_slice hR.1
      obtain ⟨p, hp⟩ : ∃ p, db.take k = p := ⟨_, rfl⟩
      have hpl : p.length ≤ k := by rw [← hp, List.length_take]; omega
      rw [hp] at hR
      rw [hp]
      have HPK := Lib.hid hp; have HR := Lib.hid hR; have HB := Lib.hid hB; have HL := Lib.hid hL
      clear hp hR hB hL
      have hkI : (k : Int) ≤ (n : Int) := by omega
      by_cases hyes : k < n ∧ ∀ d, db[k]? = some d → d.1 < o
      · obtain ⟨hkn, hlt⟩ := hyes
        obtain ⟨⟨xo, xs, xes⟩, hx⟩ := at_lt HN.out hkn
        have hxo : xo < o := hlt _ hx
        have ha := HA.out (by omega)
        subst ha
        obtain ⟨xu, d0, d1, d2, hxu⟩ := HC.out k xo xs xes hx
        obtain ⟨ya, yn, yc, rfl⟩ := hxu.form
        have hb := cell_lt d0
        have c0 := cell_below HB.out d0 hb
        have c1 := cell_below HB.out d1 hb
        have c2 := cell_below HB.out d2 hb
        have hd1 : decide ((k : Int) < (n : Int)) = true := by simp; omega
        have hd2 : decide (xo < o) = true := by simpa using hxo
        have hkJ : (k : Int) < (n : Int) := by omega
        have HX := Lib.hid hx; have HXU := Lib.hid (hxu.below HB.out (Nat.le_refl _)); have HXE := Lib.hid (HSM.out.2 _ _ hx); have HXO := Lib.hid hxo
        clear hx hxu hxo d0 d1 d2 hlt
        go_wp2_with fail
        go_quiet (fail)
        have HRD := Lib.hid (HR.out.drewN nq); have HBD := Lib.hid (below_drewN HB.out nq); have HLD := Lib.hid (HL.out.drewN nq)
        go_wp2_with fail
        refine (l11One_any xo xs xes _ (wr.drewN nq) HXU.out HXE.out).mono ?_
        rintro e w5 ⟨u5, rfl, hO, hb⟩
        obtain ⟨xa, xn, xc, rfl⟩ := (own_pairs hO).form
        have hown := (RowLs.below HRD.out hb).1
        have hsb : wr.heap.size ≤ w5.heap.size := hb.size
        have hsx := HBD.out.size
        have HO := Lib.hid hO; have HBB := Lib.hid hb; have HOW := Lib.hid hown
        have B5 := Lib.hid (HBD.out.trans (hb.mono hsx))
        have L5 := Lib.hid (Box.call hb HLD.out)
        clear hO hb hown
        go_wp2_with (at_builtin; refine wpList_append_rd rfl _ _ _ rfl w1.heap.size 41 i0 _ 3 40 Try.underlying29 HI.out HZ0.out HZ1.out HZ2.out rfl (by omega) (.slice oa p.length oc) p.length (cellsL p us) rfl (HOW.out.alloc _) (some ⟨w5.heap.size, 0, none⟩) 1 1 [.int .i64 xo, .int .i64 xs, .slice xa xn xc] rfl (srcAt_one (box_new w5 _ _) rfl) (by simp [Value.oneCell']) (by unfold maxLen; omega) (by omega) (by simp; omega) ?_; intro v6 w6 hown3 hgrow hloc)
        have hsg : w5.heap.size + 1 ≤ w6.heap.size := (by have := hgrow.size; simpa using this)
        have hbz := Lib.hid (Below.grown (B := w.heap.size) (a := w) (by have hB := B5.out; exact (by with_reducible (repeat (first | (refine below_drewN ?_ _) | (refine Below.drew ?_) | (refine below_alloc ?_ (by first | omega | (simp; done) | (simp; omega)) _) | (refine Below.setCell ?_ (by first | omega | (simp; done) | (simp; omega)) _) | exact Below.refl _ _ | assumption | (refine below_call ?_ (by first | omega | (simp; done) | (simp; omega)) (by assumption)))))) hgrow (by have := B5.out.size; simp; omega) (fun j hj => (by have := (HOW.out.lt j hj).1; omega)))
        have L6 := Lib.hid ((L5.out.alloc _).grown hgrow (fun j hj e => (by have := (HOW.out.lt j hj).1; omega)))
        have hR3 := Lib.hid (RowLs.snoc (o := xo) (s := xs) (es := xes) HRD.out HBB.out HO.out (by first | omega | (simp; omega)) hown3 hgrow)
        clear hown3 hgrow hloc
        go_wp2_with fail
        go_roundw
        case rel =>
          refine ⟨k + 1, us ++ [.slice xa xn xc], by omega, by go_num, ?_, Lib.hid fun j d hj hd => ?_, L6.out, hbz.out, by omega⟩
          · rw [take_snoc_of HX.out, HPK.out]
            exact hR3.out
          · by_cases hjk : j = k
            · subst hjk
              rw [HX.out] at hd
              injection hd with hd
              subst hd
              exact HXO.out
            · exact HLT.out j d (by omega) hd
        case measure => simp [intOf]; omega
      · have hge : ∀ (j : Nat) (d : LsaD), k ≤ j → db[j]? = some d → ¬ d.1 < o := by
          intro j d hj hd hlt
          apply hyes
          have hjl := (List.getElem?_eq_some_iff.1 hd).1
          refine ⟨by have := HN.out; omega, fun d' hd' => ?_⟩
          by_cases hjk : j = k
          · subst hjk; rw [hd] at hd'; injection hd' with hd'; subst hd'; exact hlt
          · have := HS.out k j d' d (by omega) hd' hd; omega
        have hT := filter_lt_take HLT.out hge
        rw [HPK.out] at hT
        have HT := Lib.hid hT
        by_cases hkn : k < n
        · obtain ⟨⟨xo, xs, xes⟩, hx⟩ := at_lt HN.out hkn
          have ha := HA.out (by omega)
          try subst ha
          obtain ⟨xu, d0, d1, d2, hxu⟩ := HC.out k xo xs xes hx
          obtain ⟨ya, yn, yc, rfl⟩ := hxu.form
          have hb := cell_lt d0
          have c0 := cell_below HB.out d0 hb
          have c1 := cell_below HB.out d1 hb
          have c2 := cell_below HB.out d2 hb
          have hkJ : (k : Int) < (n : Int) := by omega
          have HX := Lib.hid hx; have HXU := Lib.hid (hxu.below HB.out (Nat.le_refl _)); have HXE := Lib.hid (HSM.out.2 _ _ hx)
          have hd1 : decide ((k : Int) < (n : Int)) = true := by simp; omega
          have hd2 : decide (xo < o) = false := by have := hge k _ (Nat.le_refl _) hx; simpa using this
          clear hx hxu d0 d1 d2 hge hT hyes
          go_wp2_with fail
          go_quiet (fail)
          clear c0 c1 c2
          go_wp2_with fail
          have HRD := Lib.hid (HR.out.drewN nq); have HBD := Lib.hid (below_drewN HB.out nq); have HLD := Lib.hid (HL.out.drewN nq)
          refine (l11One_any o s es _ (wr.drewN nq) (HU.out.below HBD.out (Nat.le_refl _)) HES.out).mono ?_
          rintro e w7 ⟨u7, rfl, hO, hb⟩
          obtain ⟨xa, xn, xc, rfl⟩ := (own_pairs hO).form
          have hown := (RowLs.below HRD.out hb).1
          have hsb : wr.heap.size ≤ w7.heap.size := hb.size
          have hsx := HBD.out.size
          have HO := Lib.hid hO; have HBB := Lib.hid hb; have HOW := Lib.hid hown
          have B7 := Lib.hid (HBD.out.trans (hb.mono hsx))
          have L7 := Lib.hid (Box.call hb HLD.out)
          clear hO hb hown
          go_wp2_with (at_builtin; refine wpList_append_rd rfl _ _ _ rfl w1.heap.size 41 i0 _ 3 40 Try.underlying29 HI.out HZ0.out HZ1.out HZ2.out rfl (by omega) (.slice oa p.length oc) p.length (cellsL p us) rfl (HOW.out.alloc _) (some ⟨w7.heap.size, 0, none⟩) 1 1 [.int .i64 o, .int .i64 s, .slice xa xn xc] rfl (srcAt_one (box_new w7 _ _) rfl) (by simp [Value.oneCell']) (by unfold maxLen; omega) (by omega) (by simp; omega) ?_; intro v8 w8 hown3 hgrow hloc)
          have hsg : w7.heap.size + 1 ≤ w8.heap.size := (by have := hgrow.size; simpa using this)
          have hbz := Lib.hid (Below.grown (B := w.heap.size) (a := w) (by have hB := B7.out; exact (by with_reducible (repeat (first | (refine below_drewN ?_ _) | (refine Below.drew ?_) | (refine below_alloc ?_ (by first | omega | (simp; done) | (simp; omega)) _) | (refine Below.setCell ?_ (by first | omega | (simp; done) | (simp; omega)) _) | exact Below.refl _ _ | assumption | (refine below_call ?_ (by first | omega | (simp; done) | (simp; omega)) (by assumption)))))) hgrow (by have := B7.out.size; simp; omega) (fun j hj => (by have := (HOW.out.lt j hj).1; omega)))
          have L8 := Lib.hid ((L7.out.alloc _).grown hgrow (fun j hj e => (by have := (HOW.out.lt j hj).1; omega)))
          have hR3 := Lib.hid (RowLs.snoc (o := o) (s := s) (es := es) HRD.out HBB.out HO.out (by first | omega | (simp; omega)) hown3 hgrow)
          clear hown3 hgrow hloc
          clear B7 L7 HOW HBB HO HBD HLD HRD HR HB HL
          clear L_0 L_1 L_2 L_3 L_4 L_5 L_6
          have hst : RowLs w8 w1.heap.size v8 (p ++ (o, s, es) :: (db.take 0).filter (fun d => decide (o < d.1))) (us ++ [.slice xa xn xc]) := by simpa using hR3.out
          have HST := Lib.hid hst
          clear hst hR3
          go_wp2_with fail
          go_loopw [8, 10] (fun ov i wr => ∃ (j : Nat) (us : List Value), j ≤ n ∧ i = .int .i64 j ∧ RowLs wr w1.heap.size ov (p ++ (o, s, es) :: (db.take j).filter (fun d => decide (o < d.1))) us ∧ Box wr w.heap.size #[.int .i64 o, .int .i64 s, .slice ua un uc] 41 ∧ Below w.heap.size w wr ∧ w1.heap.size ≤ wr.heap.size) (fun _ i _ => n - (intOf i).toNat)
          case atStart => exact ⟨0, _, Nat.zero_le _, rfl, HST.out, L8.out, hbz.out, by omega⟩
          case round =>
            clear HST L8 hbz hsb hsx hsg hsz
            obtain ⟨k, us, hk, rfl, hR, hL, hB, hsz⟩ := hrel
            obtain ⟨L_0, L_1, L_2, L_3, L_4, L_5, L_6⟩ := box3 hL
            obtain ⟨oa, oc, rfl⟩ := own_slice hR.1
            obtain ⟨G, hG⟩ : ∃ G, (db.take k).filter (fun d => decide (o < d.1)) = G := ⟨_, rfl⟩
            have hGl : G.length ≤ k := by rw [← hG]; exact Nat.le_trans (List.length_filter_le _ _) (List.length_take_le _ _)
            rw [hG] at hR
            rw [hG]
            obtain ⟨q, hq⟩ : ∃ q, p ++ (o, s, es) :: G = q := ⟨_, rfl⟩
            have hql : q.length ≤ 3145728 := by rw [← hq, List.length_append, List.length_cons]; omega
            rw [hq] at hR
            rw [hq]
            have HGG := Lib.hid hG; have HQ := Lib.hid hq
            have HR := Lib.hid hR; have HB := Lib.hid hB; have HL := Lib.hid hL
            clear hR hB hL hG hq
            by_cases hkn : k < n
            · obtain ⟨⟨xo, xs, xes⟩, hx⟩ := at_lt HN.out hkn
              have ha := HA.out (by omega)
              try subst ha
              obtain ⟨xu, d0, d1, d2, hxu⟩ := HC.out k xo xs xes hx
              obtain ⟨ya, yn, yc, rfl⟩ := hxu.form
              have hb := cell_lt d0
              have c0 := cell_below HB.out d0 hb
              have c1 := cell_below HB.out d1 hb
              have c2 := cell_below HB.out d2 hb
              have hkJ : (k : Int) < (n : Int) := by omega
              have HX := Lib.hid hx; have HXU := Lib.hid (hxu.below HB.out (Nat.le_refl _)); have HXE := Lib.hid (HSM.out.2 _ _ hx)
              clear hx hxu d0 d1 d2
              rcases Bool.eq_false_or_eq_true (decide (o < xo)) with hxo | hxo
              · have hn := Lib.hid (filter_snoc (p := fun d => decide (o < d.1)) HX.out)
                have HXO := Lib.hid hxo
                go_wp2_with fail
                go_quiet (fail)
                have HRD := Lib.hid (HR.out.drewN nq); have HBD := Lib.hid (below_drewN HB.out nq); have HLD := Lib.hid (HL.out.drewN nq)
                go_wp2_with fail
                refine (l11One_any xo xs xes _ (wr.drewN nq) HXU.out HXE.out).mono ?_
                rintro e w9 ⟨u9, rfl, hO, hb⟩
                obtain ⟨xa, xn, xc, rfl⟩ := (own_pairs hO).form
                have hown := (RowLs.below HRD.out hb).1
                have hsb : wr.heap.size ≤ w9.heap.size := hb.size
                have hsx := HBD.out.size
                have HO := Lib.hid hO; have HBB := Lib.hid hb; have HOW := Lib.hid hown
                have B9 := Lib.hid (HBD.out.trans (hb.mono hsx))
                have L9 := Lib.hid (Box.call hb HLD.out)
                clear hO hb hown
                go_wp2_with (at_builtin; refine wpList_append_rd rfl _ _ _ rfl w1.heap.size 41 i0 _ 3 40 Try.underlying29 HI.out HZ0.out HZ1.out HZ2.out rfl (by omega) (.slice oa q.length oc) q.length (cellsL q us) rfl (HOW.out.alloc _) (some ⟨w9.heap.size, 0, none⟩) 1 1 [.int .i64 xo, .int .i64 xs, .slice xa xn xc] rfl (srcAt_one (box_new w9 _ _) rfl) (by simp [Value.oneCell']) (by unfold maxLen; omega) (by omega) (by simp; omega) ?_; intro v10 w10 hown3 hgrow hloc)
                have hsg : w9.heap.size + 1 ≤ w10.heap.size := (by have := hgrow.size; simpa using this)
                have hbz := Lib.hid (Below.grown (B := w.heap.size) (a := w) (by have hB := B9.out; exact (by with_reducible (repeat (first | (refine below_drewN ?_ _) | (refine Below.drew ?_) | (refine below_alloc ?_ (by first | omega | (simp; done) | (simp; omega)) _) | (refine Below.setCell ?_ (by first | omega | (simp; done) | (simp; omega)) _) | exact Below.refl _ _ | assumption | (refine below_call ?_ (by first | omega | (simp; done) | (simp; omega)) (by assumption)))))) hgrow (by have := B9.out.size; simp; omega) (fun j hj => (by have := (HOW.out.lt j hj).1; omega)))
                have L10 := Lib.hid ((L9.out.alloc _).grown hgrow (fun j hj e => (by have := (HOW.out.lt j hj).1; omega)))
                have hR3 := Lib.hid (RowLs.snoc (o := xo) (s := xs) (es := xes) HRD.out HBB.out HO.out (by first | omega | (simp; omega)) hown3 hgrow)
                clear hown3 hgrow hloc
                go_wp2_with fail
                go_roundw
                case rel =>
                  refine ⟨k + 1, us ++ [.slice xa xn xc], by omega, by go_num, ?_, L10.out, hbz.out, by omega⟩
                  have h1 := hn.out
                  simp only [HXO.out, if_true] at h1
                  rw [h1, HGG.out]
                  have h2 := hR3.out
                  rw [← HQ.out] at h2
                  simpa using h2
                case measure => simp [intOf]; omega
              · have hn := Lib.hid (filter_snoc (p := fun d => decide (o < d.1)) HX.out)
                have HXO := Lib.hid hxo
                go_wp2_with fail
                go_quiet (fail)
                go_wp2_with fail
                go_roundw
                case rel =>
                  refine ⟨k + 1, us, by omega, by go_num, ?_, HL.out.drewN _, below_drewN HB.out _, hsz⟩
                  have h1 := hn.out
                  simp only [HXO.out, Bool.false_eq_true, if_false] at h1
                  rw [h1, HGG.out, HQ.out]
                  exact HR.out.drewN _
                case measure => simp [intOf]; omega
            · obtain rfl : k = n := by omega
              go_wp2_with fail
              go_ret2
              rw [HP.out]
              have h1 := HGG.out
              rw [List.take_of_length_le (by have := HN.out; omega)] at h1
              refine ⟨_, us, rfl, ?_, HB.out⟩
              have h2 : insD db (o, s, es) = q := by unfold insD; rw [HT.out, h1, HQ.out]
              show OwnLs _ _ _ _ _ _ (insD db (o, s, es)) us
              rw [h2]
              exact HR.out.own.mono hsw (Nat.le_refl _)
        · have hd1 : decide ((k : Int) < (n : Int)) = false := by simp; omega
          clear hge hT hyes
          go_wp2_with fail
          go_quiet (fail)
          go_wp2_with fail
          have HRD := Lib.hid (HR.out.drewN nq); have HBD := Lib.hid (below_drewN HB.out nq); have HLD := Lib.hid (HL.out.drewN nq)
          refine (l11One_any o s es _ (wr.drewN nq) (HU.out.below HBD.out (Nat.le_refl _)) HES.out).mono ?_
          rintro e w7 ⟨u7, rfl, hO, hb⟩
          obtain ⟨xa, xn, xc, rfl⟩ := (own_pairs hO).form
          have hown := (RowLs.below HRD.out hb).1
          have hsb : wr.heap.size ≤ w7.heap.size := hb.size
          have hsx := HBD.out.size
          have HO := Lib.hid hO; have HBB := Lib.hid hb; have HOW := Lib.hid hown
          have B7 := Lib.hid (HBD.out.trans (hb.mono hsx))
          have L7 := Lib.hid (Box.call hb HLD.out)
          clear hO hb hown
          go_wp2_with (at_builtin; refine wpList_append_rd rfl _ _ _ rfl w1.heap.size 41 i0 _ 3 40 Try.underlying29 HI.out HZ0.out HZ1.out HZ2.out rfl (by omega) (.slice oa p.length oc) p.length (cellsL p us) rfl (HOW.out.alloc _) (some ⟨w7.heap.size, 0, none⟩) 1 1 [.int .i64 o, .int .i64 s, .slice xa xn xc] rfl (srcAt_one (box_new w7 _ _) rfl) (by simp [Value.oneCell']) (by unfold maxLen; omega) (by omega) (by simp; omega) ?_; intro v8 w8 hown3 hgrow hloc)
          have hsg : w7.heap.size + 1 ≤ w8.heap.size := (by have := hgrow.size; simpa using this)
          have hbz := Lib.hid (Below.grown (B := w.heap.size) (a := w) (by have hB := B7.out; exact (by with_reducible (repeat (first | (refine below_drewN ?_ _) | (refine Below.drew ?_) | (refine below_alloc ?_ (by first | omega | (simp; done) | (simp; omega)) _) | (refine Below.setCell ?_ (by first | omega | (simp; done) | (simp; omega)) _) | exact Below.refl _ _ | assumption | (refine below_call ?_ (by first | omega | (simp; done) | (simp; omega)) (by assumption)))))) hgrow (by have := B7.out.size; simp; omega) (fun j hj => (by have := (HOW.out.lt j hj).1; omega)))
          have L8 := Lib.hid ((L7.out.alloc _).grown hgrow (fun j hj e => (by have := (HOW.out.lt j hj).1; omega)))
          have hR3 := Lib.hid (RowLs.snoc (o := o) (s := s) (es := es) HRD.out HBB.out HO.out (by first | omega | (simp; omega)) hown3 hgrow)
          clear hown3 hgrow hloc
          clear B7 L7 HOW HBB HO HBD HLD HRD HR HB HL
          clear L_0 L_1 L_2 L_3 L_4 L_5 L_6
          have hst : RowLs w8 w1.heap.size v8 (p ++ (o, s, es) :: (db.take 0).filter (fun d => decide (o < d.1))) (us ++ [.slice xa xn xc]) := by simpa using hR3.out
          have HST := Lib.hid hst
          clear hst hR3
          go_wp2_with fail
          go_loopw [8, 10] (fun ov i wr => ∃ (j : Nat) (us : List Value), j ≤ n ∧ i = .int .i64 j ∧ RowLs wr w1.heap.size ov (p ++ (o, s, es) :: (db.take j).filter (fun d => decide (o < d.1))) us ∧ Box wr w.heap.size #[.int .i64 o, .int .i64 s, .slice ua un uc] 41 ∧ Below w.heap.size w wr ∧ w1.heap.size ≤ wr.heap.size) (fun _ i _ => n - (intOf i).toNat)
          case atStart => exact ⟨0, _, Nat.zero_le _, rfl, HST.out, L8.out, hbz.out, by omega⟩
          case round =>
            clear HST L8 hbz hsb hsx hsg hsz
            obtain ⟨k, us, hk, rfl, hR, hL, hB, hsz⟩ := hrel
            obtain ⟨L_0, L_1, L_2, L_3, L_4, L_5, L_6⟩ := box3 hL
            obtain ⟨oa, oc, rfl⟩ := own_slice hR.1
            obtain ⟨G, hG⟩ : ∃ G, (db.take k).filter (fun d => decide (o < d.1)) = G := ⟨_, rfl⟩
            have hGl : G.length ≤ k := by rw [← hG]; exact Nat.le_trans (List.length_filter_le _ _) (List.length_take_le _ _)
            rw [hG] at hR
            rw [hG]
            obtain ⟨q, hq⟩ : ∃ q, p ++ (o, s, es) :: G = q := ⟨_, rfl⟩
            have hql : q.length ≤ 3145728 := by rw [← hq, List.length_append, List.length_cons]; omega
            rw [hq] at hR
            rw [hq]
            have HGG := Lib.hid hG; have HQ := Lib.hid hq
            have HR := Lib.hid hR; have HB := Lib.hid hB; have HL := Lib.hid hL
            clear hR hB hL hG hq
            by_cases hkn : k < n
            · obtain ⟨⟨xo, xs, xes⟩, hx⟩ := at_lt HN.out hkn
              have ha := HA.out (by omega)
              try subst ha
              obtain ⟨xu, d0, d1, d2, hxu⟩ := HC.out k xo xs xes hx
              obtain ⟨ya, yn, yc, rfl⟩ := hxu.form
              have hb := cell_lt d0
              have c0 := cell_below HB.out d0 hb
              have c1 := cell_below HB.out d1 hb
              have c2 := cell_below HB.out d2 hb
              have hkJ : (k : Int) < (n : Int) := by omega
              have HX := Lib.hid hx; have HXU := Lib.hid (hxu.below HB.out (Nat.le_refl _)); have HXE := Lib.hid (HSM.out.2 _ _ hx)
              clear hx hxu d0 d1 d2
              rcases Bool.eq_false_or_eq_true (decide (o < xo)) with hxo | hxo
              · have hn := Lib.hid (filter_snoc (p := fun d => decide (o < d.1)) HX.out)
                have HXO := Lib.hid hxo
                go_wp2_with fail
                go_quiet (fail)
                have HRD := Lib.hid (HR.out.drewN nq); have HBD := Lib.hid (below_drewN HB.out nq); have HLD := Lib.hid (HL.out.drewN nq)
                go_wp2_with fail
                refine (l11One_any xo xs xes _ (wr.drewN nq) HXU.out HXE.out).mono ?_
                rintro e w9 ⟨u9, rfl, hO, hb⟩
                obtain ⟨xa, xn, xc, rfl⟩ := (own_pairs hO).form
                have hown := (RowLs.below HRD.out hb).1
                have hsb : wr.heap.size ≤ w9.heap.size := hb.size
                have hsx := HBD.out.size
                have HO := Lib.hid hO; have HBB := Lib.hid hb; have HOW := Lib.hid hown
                have B9 := Lib.hid (HBD.out.trans (hb.mono hsx))
                have L9 := Lib.hid (Box.call hb HLD.out)
                clear hO hb hown
                go_wp2_with (at_builtin; refine wpList_append_rd rfl _ _ _ rfl w1.heap.size 41 i0 _ 3 40 Try.underlying29 HI.out HZ0.out HZ1.out HZ2.out rfl (by omega) (.slice oa q.length oc) q.length (cellsL q us) rfl (HOW.out.alloc _) (some ⟨w9.heap.size, 0, none⟩) 1 1 [.int .i64 xo, .int .i64 xs, .slice xa xn xc] rfl (srcAt_one (box_new w9 _ _) rfl) (by simp [Value.oneCell']) (by unfold maxLen; omega) (by omega) (by simp; omega) ?_; intro v10 w10 hown3 hgrow hloc)
                have hsg : w9.heap.size + 1 ≤ w10.heap.size := (by have := hgrow.size; simpa using this)
                have hbz := Lib.hid (Below.grown (B := w.heap.size) (a := w) (by have hB := B9.out; exact (by with_reducible (repeat (first | (refine below_drewN ?_ _) | (refine Below.drew ?_) | (refine below_alloc ?_ (by first | omega | (simp; done) | (simp; omega)) _) | (refine Below.setCell ?_ (by first | omega | (simp; done) | (simp; omega)) _) | exact Below.refl _ _ | assumption | (refine below_call ?_ (by first | omega | (simp; done) | (simp; omega)) (by assumption)))))) hgrow (by have := B9.out.size; simp; omega) (fun j hj => (by have := (HOW.out.lt j hj).1; omega)))
                have L10 := Lib.hid ((L9.out.alloc _).grown hgrow (fun j hj e => (by have := (HOW.out.lt j hj).1; omega)))
                have hR3 := Lib.hid (RowLs.snoc (o := xo) (s := xs) (es := xes) HRD.out HBB.out HO.out (by first | omega | (simp; omega)) hown3 hgrow)
                clear hown3 hgrow hloc
                go_wp2_with fail
                go_roundw
                case rel =>
                  refine ⟨k + 1, us ++ [.slice xa xn xc], by omega, by go_num, ?_, L10.out, hbz.out, by omega⟩
                  have h1 := hn.out
                  simp only [HXO.out, if_true] at h1
                  rw [h1, HGG.out]
                  have h2 := hR3.out
                  rw [← HQ.out] at h2
                  simpa using h2
                case measure => simp [intOf]; omega
              · have hn := Lib.hid (filter_snoc (p := fun d => decide (o < d.1)) HX.out)
                have HXO := Lib.hid hxo
                go_wp2_with fail
                go_quiet (fail)
                go_wp2_with fail
                go_roundw
                case rel =>
                  refine ⟨k + 1, us, by omega, by go_num, ?_, HL.out.drewN _, below_drewN HB.out _, hsz⟩
                  have h1 := hn.out
                  simp only [HXO.out, Bool.false_eq_true, if_false] at h1
                  rw [h1, HGG.out, HQ.out]
                  exact HR.out.drewN _
                case measure => simp [intOf]; omega
            · obtain rfl : k = n := by omega
              go_wp2_with fail
              go_ret2
              rw [HP.out]
              have h1 := HGG.out
              rw [List.take_of_length_le (by have := HN.out; omega)] at h1
              refine ⟨_, us, rfl, ?_, HB.out⟩
              have h2 : insD db (o, s, es) = q := by unfold insD; rw [HT.out, h1, HQ.out]
              show OwnLs _ _ _ _ _ _ (insD db (o, s, es)) us
              rw [h2]
              exact HR.out.own.mono hsw (Nat.le_refl _)
end Go.Proofs.Ytnnkdoomjkccgaa
