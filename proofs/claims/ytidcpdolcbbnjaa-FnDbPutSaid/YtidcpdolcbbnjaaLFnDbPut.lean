/- FnDbPut: for every input the call returns true, and the argument reads afterwards as before. No condition. -/
import Derived.Test.YtidcpdolcbbnjaaDrawPut
import Derived.Test.YtidcpdolcbbnjaaIPut
import Derived.Test.YtidcpdolcbbnjaaSame
import Derived.Test.YtidcpdolcbbnjaaPureMerge
import Derived.Test.YtidcpdolcbbnjaaSeq
import Derived.Test.YtidcpdolcbbnjaaRows
import Derived.Test.YtidcpdolcbbnjaaOpen
import Derived.ProofKit
import Derived.OpenShut
import Derived.ShutString
import Derived.ChangeOld
import Derived.Lib.SmallJoins
namespace Go.Proofs.Ytidcpdolcbbnjaa.lawFnDbPut
open Go.ChangeShapes Go.WideShapes Go.ChangeAt Go.RowKit Go.Joins
set_option maxRecDepth 100000 in
set_option maxHeartbeats 4000000 in
theorem walk (v : Value) (w : World) (h : CodeAt w v) :
    Calls Try.prog 5 #[v] w fun e w' => e = .returned (.bool true) ∧ Below w.heap.size w w' := by
  obtain ⟨a0, n, cap, b, off, rfl, hcap, hmax, ha, hc⟩ := id h
  unfold maxLen at hmax
  clear ha hc
  have H := Lib.hid h
  clear h
  by_cases hn : 1048576 < n
  · go_enter Try.func5, Try.ntmps5
    go_wp2
    go_ret
    exact ⟨rfl, Below.refl _ _⟩
  go_enter Try.func5, Try.ntmps5
  go_wp2_with fail
  refine (drawDbPut _ _ H.out).mono ?_
  rintro e w1 ⟨va, vu, db, o, s, es, rfl, h1, h2, hb1⟩
  have BW := Lib.hid hb1
  obtain ⟨xa, xn, xc, rfl⟩ := h1.form
  obtain ⟨ya, yn, yc, rfl⟩ := h2.form
  have X := Lib.hid h1; have Y := Lib.hid h2
  obtain ⟨⟨p, c⟩, hp⟩ : ∃ p, putOf db (o, s, es) = p := ⟨_, rfl⟩
  have HP := Lib.hid hp
  clear hb1 h1 h2 hp
  go_wp2_with fail
  refine (iDbPut db o s es _ _ _ (X.out.below (by with_reducible (repeat (first | (refine below_drewN ?_ _) | (refine Below.drew ?_) | (refine below_alloc ?_ (by first | omega | (simp; done) | (simp; omega)) _) | (refine Below.setCell ?_ (by first | omega | (simp; done) | (simp; omega)) _) | exact Below.refl _ _ | assumption | (refine below_call ?_ (by first | omega | (simp; done) | (simp; omega)) (by assumption))))) (Nat.le_refl _)) (Y.out.below (by with_reducible (repeat (first | (refine below_drewN ?_ _) | (refine Below.drew ?_) | (refine below_alloc ?_ (by first | omega | (simp; done) | (simp; omega)) _) | (refine Below.setCell ?_ (by first | omega | (simp; done) | (simp; omega)) _) | exact Below.refl _ _ | assumption | (refine below_call ?_ (by first | omega | (simp; done) | (simp; omega)) (by assumption))))) (Nat.le_refl _))).mono ?_
  rw [HP.out]
  rintro e w2 ⟨v2, us2, rfl, hO, hb⟩
  have kk := Lib.hid (below_call (B := w1.heap.size) (a := w1) (by with_reducible (repeat (first | (refine below_drewN ?_ _) | (refine Below.drew ?_) | (refine below_alloc ?_ (by first | omega | (simp; done) | (simp; omega)) _) | (refine Below.setCell ?_ (by first | omega | (simp; done) | (simp; omega)) _) | exact Below.refl _ _ | assumption | (refine below_call ?_ (by first | omega | (simp; done) | (simp; omega)) (by assumption))))) (Nat.le_refl _) hb)
  replace BW := Lib.hid (BW.out.trans (kk.out.mono BW.out.size))
  replace X := Lib.hid (X.out.below kk.out (Nat.le_refl _))
  replace Y := Lib.hid (Y.out.below kk.out (Nat.le_refl _))
  have L := Lib.hid (Box.call (b := w1.heap.size) (c := #[.int .i64 o, .int .i64 s, .slice ya yn yc]) (t := 26) hb (by with_reducible (repeat (first | (refine box_at _ _ _ ?_; first | rfl | (simp; done)) | apply Box.alloc | apply Box.drewN | apply Box.drew))))
  obtain ⟨L_0, L_1, L_2, L_3, L_4, L_5, L_6⟩ := box3 L.out
  have P2 := Lib.hid hO.at_
  simp only at P2
  obtain ⟨pa, pn, pc, rfl⟩ := P2.out.form
  clear hb hO kk
  go_wp2_with fail
  refine (sDbPut db o s es _ _ _ X.out Y.out).mono ?_
  rw [HP.out]
  rintro e w3 ⟨v3, us3, rfl, hO, hb⟩
  have kk := Lib.hid (below_call (B := w2.heap.size) (a := w2) (by with_reducible (repeat (first | (refine below_drewN ?_ _) | (refine Below.drew ?_) | (refine below_alloc ?_ (by first | omega | (simp; done) | (simp; omega)) _) | (refine Below.setCell ?_ (by first | omega | (simp; done) | (simp; omega)) _) | exact Below.refl _ _ | assumption | (refine below_call ?_ (by first | omega | (simp; done) | (simp; omega)) (by assumption))))) (Nat.le_refl _) hb)
  replace BW := Lib.hid (BW.out.trans (kk.out.mono BW.out.size))
  replace X := Lib.hid (X.out.below kk.out (Nat.le_refl _))
  replace Y := Lib.hid (Y.out.below kk.out (Nat.le_refl _))
  replace P2 := Lib.hid (P2.out.below kk.out (Nat.le_refl _))
  replace L := Lib.hid (L.out.below kk.out L.out.lt)
  clear L_0 L_1 L_2 L_3 L_4 L_5 L_6
  obtain ⟨L_0, L_1, L_2, L_3, L_4, L_5, L_6⟩ := box3 L.out
  have P3 := Lib.hid hO.at_
  simp only at P3
  obtain ⟨qa, qn, qc, rfl⟩ := P3.out.form
  clear hb hO kk
  have hcc : (c != c) = false := by simp
  have hcc2 : (c == c) = true := by simp
  go_wp2_with fail
  refine (sameDb_any p p _ _ _ P2.out P3.out).mono ?_
  rw [eqB_self]
  rintro e w4 ⟨rfl, hb⟩
  have kk := Lib.hid (below_call (B := w3.heap.size) (a := w3) (by with_reducible (repeat (first | (refine below_drewN ?_ _) | (refine Below.drew ?_) | (refine below_alloc ?_ (by first | omega | (simp; done) | (simp; omega)) _) | (refine Below.setCell ?_ (by first | omega | (simp; done) | (simp; omega)) _) | exact Below.refl _ _ | assumption | (refine below_call ?_ (by first | omega | (simp; done) | (simp; omega)) (by assumption))))) (Nat.le_refl _) hb)
  replace BW := Lib.hid (BW.out.trans (kk.out.mono BW.out.size))
  replace X := Lib.hid (X.out.below kk.out (Nat.le_refl _))
  replace Y := Lib.hid (Y.out.below kk.out (Nat.le_refl _))
  replace P2 := Lib.hid (P2.out.below kk.out (Nat.le_refl _))
  replace P3 := Lib.hid (P3.out.below kk.out (Nat.le_refl _))
  replace L := Lib.hid (L.out.below kk.out L.out.lt)
  clear L_0 L_1 L_2 L_3 L_4 L_5 L_6
  obtain ⟨L_0, L_1, L_2, L_3, L_4, L_5, L_6⟩ := box3 L.out
  clear hb kk
  have hok : c = 0 → dbOk db = true ∧ lsaOk o s es = true := by
    rintro rfl
    rcases Bool.eq_false_or_eq_true (dbOk db && lsaOk o s es) with h | h
    · simpa using h
    · have := HP.out
      rw [putOf_bad h] at this
      injection this with _ e
      simp at e
  rcases Bool.eq_false_or_eq_true (c != 0) with h3 | h3
  · go_wp2_with fail
    refine (sameDb_any p p _ _ _ P2.out P3.out).mono ?_
    rw [eqB_self]
    rintro e w5 ⟨rfl, hb⟩
    have kk := Lib.hid (below_call (B := w4.heap.size) (a := w4) (by with_reducible (repeat (first | (refine below_drewN ?_ _) | (refine Below.drew ?_) | (refine below_alloc ?_ (by first | omega | (simp; done) | (simp; omega)) _) | (refine Below.setCell ?_ (by first | omega | (simp; done) | (simp; omega)) _) | exact Below.refl _ _ | assumption | (refine below_call ?_ (by first | omega | (simp; done) | (simp; omega)) (by assumption))))) (Nat.le_refl _) hb)
    replace BW := Lib.hid (BW.out.trans (kk.out.mono BW.out.size))
    clear hb kk
    go_wp2_with fail
    go_ret
    exact ⟨rfl, BW.out⟩
  obtain rfl : c = 0 := by simpa using h3
  obtain ⟨hdb, hl⟩ := hok rfl
  have hpd : putD db (o, s, es) = (p, 0) := by rw [← HP.out]; exact (putOf_ok (l := (o, s, es)) hdb hl).symm
  have hpo : dbOk p = true := by have := putD_ok (l := (o, s, es)) hdb hl; rw [hpd] at this; exact this
  have hs1 : 1 ≤ s := lsa_seq (l := (o, s, es)) hl
  have hsq : ∀ x, seqB p x = if x = o then max (seqB db x) s else seqB db x := fun x => by
    have := putD_seq (l := (o, s, es)) (dbOk_iff.1 hdb).2 hs1 x
    rw [hpd] at this
    exact this
  have hlt : seqB db o < s := by
    have := putD_code (db := db) (l := (o, s, es)) hs1
    rw [hpd] at this
    simp only at this
    split at this
    · assumption
    · split at this <;> simp at this
  have hmem : (o, s, es) ∈ p := by
    have := putD_find (l := (o, s, es)) (dbOk_iff.1 hdb).2 hs1 o
    rw [hpd, if_pos ⟨rfl, hlt⟩] at this
    exact (findD_mem this).1
  have hdl := dbOk_len hdb
  have hpl := dbOk_len hpo
  have hseq : ∀ (k : Nat) (d : LsaD), db[k]? = some d → d.1 ≠ o → seqB p d.1 = d.2.1 := fun k d hd hne => by
    rw [hsq, if_neg hne, seq_mem (dbOk_iff.1 hdb).2 (List.mem_of_getElem? hd)]
  have HPO := Lib.hid hpo; have HLT := Lib.hid hlt; have HMEM := Lib.hid hmem; have HSEQ := Lib.hid hseq
  clear hok hdb hl hpd hpo hs1 hsq hlt hmem hseq P3
  obtain ⟨m, hm⟩ : ∃ m, p.length = m := ⟨_, rfl⟩
  have hP2 := P2.out
  obtain ⟨A, pcap, pb, poff, hpv, hpcap, hpmax, hpa, hpcc⟩ := hP2
  obtain ⟨rfl, hpn, rfl⟩ := Value.slice.inj hpv
  rw [hm] at hpn hpa hpl
  subst hpn
  have HM := Lib.hid hm; have HPA := Lib.hid hpa; have HPC := Lib.hid hpcc
  unfold maxLen at hpmax
  clear hpv hm hpa hpcc
  go_wp2_with fail
  go_loopw [9, 10] (fun f i wr => ∃ k : Nat, k ≤ pn ∧ i = .int .i64 k ∧ f = .bool ((p.take k).any fun d => eqB d (o, s, es)) ∧ Below w4.heap.size w4 wr) (fun _ i _ => pn - (intOf i).toNat)
  case atStart => exact ⟨0, Nat.zero_le _, rfl, rfl, Below.refl _ _⟩
  case round =>
    obtain ⟨k, hk, rfl, rfl, HB⟩ := hrel
    obtain ⟨fnd, hfnd⟩ : ∃ b, ((p.take k).any fun d => eqB d (o, s, es)) = b := ⟨_, rfl⟩
    rw [hfnd]
    have HFN := Lib.hid hfnd
    have HBB := Lib.hid HB
    clear hfnd
    by_cases hkn : k < pn
    · obtain ⟨⟨x, y, es2⟩, hxy⟩ := at_lt HM.out.symm hkn
      have ha := HPA.out (by omega)
      subst ha
      obtain ⟨u, d0, d1, d2, hu⟩ := HPC.out k x y es2 hxy
      obtain ⟨ua, un, uc, rfl⟩ := hu.form
      have hkI : (k:Int) < (pn:Int) := by omega
      obtain ⟨I, φ, h0, hφ, hmk⟩ := famOf w4.heap.size wr
      haveI : Nonempty I := h0.elim fun i _ => ⟨i⟩
      have hbd := cell_lt d0
      have e0 : ∀ i, (φ i).cell? ⟨pb, poff + k * 3, none⟩ = some (.int .i64 x) := fun i => cell_below (hφ i) (cell_below HB d0 hbd) hbd
      have e1 : ∀ i, (φ i).cell? ⟨pb, poff + k * 3 + 1, none⟩ = some (.int .i64 y) := fun i => cell_below (hφ i) (cell_below HB d1 hbd) hbd
      have e2 : ∀ i, (φ i).cell? ⟨pb, poff + k * 3 + 2, none⟩ = some (.slice ua un uc) := fun i => cell_below (hφ i) (cell_below HB d2 hbd) hbd
      have e3 : ∀ i, (φ i).cell? ⟨w1.heap.size, 0, none⟩ = some (.int .i64 o) := fun i => cell_below (hφ i) (cell_below HB L_0 L.out.lt) L.out.lt
      have e4 : ∀ i, (φ i).cell? ⟨w1.heap.size, 1, none⟩ = some (.int .i64 s) := fun i => cell_below (hφ i) (cell_below HB L_1 L.out.lt) L.out.lt
      have e5 : ∀ i, (φ i).cell? ⟨w1.heap.size, 2, none⟩ = some (.slice ya yn yc) := fun i => cell_below (hφ i) (cell_below HB L_2 L.out.lt) L.out.lt
      have HU : Hid (∀ i, PairsAt (φ i) (.slice ua un uc) es2) := Lib.hid fun i => hu.below (HB.trans (hφ i)) (Nat.le_refl _)
      have HYY : Hid (∀ i, PairsAt (φ i) (.slice ya yn yc) es) := Lib.hid fun i => Y.out.below (HB.trans (hφ i)) (Nat.le_refl _)
      have HBs := Lib.hid HB.size
      have H0 := Lib.hid h0; have HF := Lib.hid hφ; have HMK := Lib.hid hmk
      have HNX : Hid (((p.take (k + 1)).any fun d => eqB d (o, s, es)) = (fnd || eqB (x, y, es2) (o, s, es))) := by
        show _ = _
        rw [take_snoc_of hxy, List.any_append, HFN.out]
        simp
      have HBR : Hid (Below w4.heap.size w4 wr) := HBB
      clear hxy hu d0 d1 d2 h0 hφ hmk HB
      rcases Bool.eq_false_or_eq_true (eqB (x, y, es2) (o, s, es)) with hq | hq
      all_goals
        rw [hq] at HNX
        cases fnd
      all_goals
        go_wp2_with fail
        refine wp_region_fam φ H0.out (by kernel_rfl) (by kernel_rfl) ?_
        repeat (go_big_quiet_step ((go_at_call 19; exact quiet_fam HF.out HBs.out HMK.out (sameLsa_any _ _ _ _ _ _ _ _ _ (HU.out _) (HYY.out _)))))
        refine wpQuiet_nil ?_
        intro _ hw'
        obtain ⟨nq, hw''⟩ := hw'
        subst hw''
        go_wp2_with fail
        go_roundw
        case rel =>
          refine ⟨k + 1, by omega, by go_num, ?_, HBB.out.trans (HF.out nq)⟩
          rw [HNX.out]; first | rfl | simp [hq]
        case measure => simp [intOf]; omega
    · obtain rfl : k = pn := by omega
      have hft : fnd = true := by
        rw [← HFN.out, List.take_of_length_le (by have := HM.out; omega), List.any_eq_true]
        exact ⟨_, HMEM.out, eqB_self _⟩
      subst hft
      obtain ⟨dn, hdn⟩ : ∃ m, db.length = m := ⟨_, rfl⟩
      have hX := X.out
      obtain ⟨A2, xcap, xb, xoff, hxv, hxcap, hxmax, hxa, hxc⟩ := hX
      obtain ⟨rfl, hxn, rfl⟩ := Value.slice.inj hxv
      rw [hdn] at hxn hxa hdl
      subst hxn
      have HDN := Lib.hid hdn; have HXA := Lib.hid hxa; have HXC := Lib.hid hxc
      unfold maxLen at hxmax
      have L' := Lib.hid (L.out.below HB L.out.lt)
      have HY' := Lib.hid (Y.out.below HB (Nat.le_refl _))
      clear hxv hdn hxa hxc HFN L_0 L_1 L_2 L_3 L_4 L_5 L_6
      go_wp2_with fail
      go_loopw [11] (fun i wr2 => ∃ j : Nat, j ≤ xn ∧ i = .int .i64 j ∧ Below w4.heap.size w4 wr2) (fun i _ => xn - (intOf i).toNat)
      case atStart => exact ⟨0, Nat.zero_le _, rfl, HB⟩
      case round =>
        obtain ⟨j, hj, rfl, HB2⟩ := hrel
        have HBB2 := Lib.hid HB2
        by_cases hjn : j < xn
        · obtain ⟨⟨x, y, es2⟩, hxy⟩ := at_lt HDN.out.symm hjn
          have ha := HXA.out (by omega)
          subst ha
          obtain ⟨u, d0, d1, d2, hu⟩ := HXC.out j x y es2 hxy
          have hbd := cell_lt d0
          have e0 := cell_below HB2 d0 hbd
          have e1 := cell_below HB2 d1 hbd
          have L2 := L.out.below HB2 L.out.lt
          obtain ⟨L_0, L_1, L_2, L_3, L_4, L_5, L_6⟩ := box3 L2
          have hjI : (j:Int) < (xn:Int) := by omega
          have hyy : (y != y) = false := by simp
          rcases Bool.eq_false_or_eq_true (x != o) with hxo | hxo
          · have hsq := HSEQ.out j _ hxy (by simpa using hxo)
            simp only at hsq
            have HSO : Hid (∀ q, Calls Try.prog 20 #[.slice pa k pc, .int .i64 x] (wr.drewN q) fun e w' => e = .returned (.int .i64 y) ∧ wr.drewN q = w') := Lib.hid fun q => by
              rw [← hsq]
              exact seqOf_any p x _ _ (P2.out.below (below_drewN HB2 q) (Nat.le_refl _))
            clear hxy hu d0 d1 d2 hsq HB2 L2 L_3 L_4 L_5 L_6
            go_wp2_with fail
            go_quiet ((go_at_call 20; exact quiet_drewN_same (HSO.out _)))
            go_wp2_with fail
            go_roundw
            case rel => exact ⟨j + 1, by omega, by go_num, below_drewN HBB2.out _⟩
            case measure => simp [intOf]; omega
          · clear hxy hu d0 d1 d2 HB2 L2 L_3 L_4 L_5 L_6
            go_wp2_with fail
            go_quiet (fail)
            go_wp2_with fail
            go_roundw
            case rel => exact ⟨j + 1, by omega, by go_num, below_drewN HBB2.out _⟩
            case measure => simp [intOf]; omega
        · obtain ⟨I, φ, h0, hφ, hmk⟩ := famOf w4.heap.size wr
          haveI : Nonempty I := h0.elim fun i _ => ⟨i⟩
          have e4 : ∀ i, (φ i).cell? ⟨w1.heap.size, 1, none⟩ = some (.int .i64 s) := fun i => cell_below (hφ i) (cell_below HB2 (L.out.cell 1 _ rfl) L.out.lt) L.out.lt
          have e3 : ∀ i, (φ i).cell? ⟨w1.heap.size, 0, none⟩ = some (.int .i64 o) := fun i => cell_below (hφ i) (cell_below HB2 (L.out.cell 0 _ rfl) L.out.lt) L.out.lt
          have hd : decide (seqB db o < s) = true := by simpa using HLT.out
          obtain ⟨q, hq⟩ : ∃ q, seqB db o = q := ⟨_, rfl⟩
          rw [hq] at hd
          have HDV : Hid (∀ i, Calls Try.prog 21 #[.slice pa k pc] (φ i) fun e w' => e = .returned (.bool true) ∧ Below (φ i).heap.size (φ i) w') := Lib.hid fun i => by
            have := iDbValid p _ _ (P2.out.below (HB2.trans (hφ i)) (Nat.le_refl _))
            rw [HPO.out] at this
            exact this
          have HSO : Hid (∀ i, Calls Try.prog 20 #[.slice xa xn xc, .int .i64 o] (φ i) fun e w' => e = .returned (.int .i64 q) ∧ φ i = w') := Lib.hid fun i => by
            have := seqOf_any db o _ _ (X.out.below (HB2.trans (hφ i)) (Nat.le_refl _))
            rw [hq] at this
            exact this
          have HBs := Lib.hid HB2.size
          have H0 := Lib.hid h0; have HF := Lib.hid hφ; have HMK := Lib.hid hmk
          clear h0 hφ hmk HB2 hq
          go_wp2_with fail
          refine wp_region_fam φ H0.out (by kernel_rfl) (by kernel_rfl) ?_
          repeat (go_big_quiet_step ((first | (go_at_call 21; exact quiet_fam HF.out HBs.out HMK.out (HDV.out _)) | (go_at_call 20; exact quiet_fam_same (HSO.out _)))))
          refine wpQuiet_nil ?_
          intro _ hw'
          obtain ⟨nq, hw''⟩ := hw'
          subst hw''
          go_wp2_with fail
          go_ret
          exact ⟨rfl, BW.out.trans ((HBB2.out.trans (HF.out nq)).mono BW.out.size)⟩
theorem own : ownKnob Try.prog.godebug = none := by kernel_rfl
theorem laidOut : laidOutB Try.prog = true := by kernel_rfl
set_option maxRecDepth 100000 in
theorem lifted (os : Os) (started : os.Started) (H : Type) (enc : TypeId × Value → H) :
    ReturnsInHanded {} Try.checked os 5 .any (Rows.fnDbPutSpec.pre6 enc Try.prog Try.f5 Rows.fnDbPutRow.domain false) (Rows.fnDbPutSpec.post enc Try.prog Try.f5 false true false false) := by
  refine returnsInHanded_of_change (C := Try.checked) own started (by kernel_rfl) Try.func5
    (ChangeSpec.witness6 (enc := enc) (C := Try.checked) false ⟨#[], #[.slice none 0 0], []⟩ 8 (by kernel_rfl) (by kernel_rfl) (by kernel_rfl) (by kernel_rfl)) ?_
  intro W base args ds gs before hval0 hW hcnd _
  have hval : ∀ (j : Nat) t v, Try.f5.params[j]? = some t → args[j]? = some v → Value.okWide Try.prog W .any base t v := hval0
  have hW' := hW
  obtain ⟨p, q, hA0, hV, rfl, hfz, hnd⟩ := hW
  have hA : DataW.TrodAll enc Try.prog W 0 (fun _ => true) true Try.f5.params.toList args.toList ds p := hA0
  rw [Try.params5] at hA hval
  obtain ⟨v0, vs0, d0, ds0, p0, q0, hargs, rfl, rfl, h0, r0⟩ := trodAll_cons hA
  obtain ⟨rfl, rfl, rfl⟩ := trodAll_nil r0
  obtain rfl : args = #[v0] := by cases args; simp_all
  obtain ⟨rfl, rfl⟩ := trodVars_none hV
  have k0 := h0
  have lt0 : ∀ x ∈ p0, x.block < W.heap.size := by obtain ⟨m, hm⟩ := k0; exact DataW.trod_lt m _ _ _ hm
  have w0 : CodeAt W v0 := codeAt_of_trod (T := 22) (E := 5) Try.underlying22 Try.underlying5 (by kernel_rfl) (hval 0 22 v0 rfl rfl) h0
  clear hA0 hval0
  refine (walk v0 W w0).mono fun e W' ⟨he, bel⟩ => ?_
  subst he
  exact ⟨_, rfl, _, _, _, [], _, [], hW', trodAll_mk1 (shut_bool Try.underlying4 _), (trodAll_cons_mk (Below.trod laidOut (by kernel_rfl) (of_decide_eq_true (by kernel_rfl)) k0 bel lt0) trodAll_mk0), rfl, bel.frame _, fun h => by cases h⟩
theorem over : Rows.fnDbPutRow.holds Try.pinned (OpenSpec.ofChange Rows.fnDbPutSpec) :=
  OpenClaim.holds_of_wide 5 Try.f5 rfl rfl rfl rfl rfl rfl rfl ⟨rfl, rfl, rfl, rfl, rfl⟩ rfl rfl rfl rfl rfl (by kernel_rfl) Try.func5 (by kernel_rfl)
    (of_decide_eq_true (by kernel_rfl)) (by unfold Func.isWrapper; first | (rw [if_pos (by decide +kernel)]; kernel_rfl) | (rw [if_neg (by decide +kernel)]; exact ⟨rfl, rfl⟩))
    (fun os started H enc _ => lifted os started H enc)
end Go.Proofs.Ytidcpdolcbbnjaa.lawFnDbPut
namespace Go.Proofs.Ytidcpdolcbbnjaa
/-- The statement. -/
theorem FnDbPut_proved : Rows.FnDbPutSaid := lawFnDbPut.over
#print axioms FnDbPut_proved
end Go.Proofs.Ytidcpdolcbbnjaa
