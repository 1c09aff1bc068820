/- FnDbPutOrder: for every input the call returns true, and the argument reads afterwards as before. No condition. -/
import Derived.Test.YtidcpdolcbbnjaaDrawPut
import Derived.Test.YtidcpdolcbbnjaaIPut
import Derived.Test.YtidcpdolcbbnjaaSame
import Derived.Test.YtidcpdolcbbnjaaPureMerge
import Derived.Test.YtidcpdolcbbnjaaSeq
import Derived.Test.YtidcpdolcbbnjaaRows
import Derived.Test.YtidcpdolcbbnjaaOpen
import Derived.ProofKit
import Derived.OpenShut
import Derived.ShutString
import Derived.ChangeOld
import Derived.Lib.SmallJoins
namespace Go.Proofs.Ytidcpdolcbbnjaa.lawFnDbPutOrder
open Go.ChangeShapes Go.WideShapes Go.ChangeAt Go.RowKit Go.Joins
set_option maxRecDepth 100000 in
set_option maxHeartbeats 4000000 in
theorem walk (v : Value) (u : Value) (w : World) (h : CodeAt w v) (hm : CodeAt w u) :
    Calls Try.prog 3 #[v, u] w fun e w' => e = .returned (.bool true) ∧ Below w.heap.size w w' := by
  obtain ⟨a0, n, cap, b, off, rfl, hcap, hmax, ha, hc⟩ := id h
  unfold maxLen at hmax
  clear ha hc
  have H := Lib.hid h
  clear h
  obtain ⟨a1, n1, cap1, b1, off1, rfl, hcap1, hmax1, ha, hc⟩ := id hm
  unfold maxLen at hmax1
  clear ha hc
  have M := Lib.hid hm
  clear hm
  by_cases hn : 1048576 < n
  · go_enter Try.func3, Try.ntmps3
    go_wp2
    go_ret
    exact ⟨rfl, Below.refl _ _⟩
  have hd0 : decide (1048576 < (n:Int)) = false := by simp; omega
  by_cases hn1 : 1048576 < n1
  · have hd1 : decide (1048576 < (n1:Int)) = true := by simp; omega
    go_enter Try.func3, Try.ntmps3
    go_wp2
    go_ret
    exact ⟨rfl, Below.refl _ _⟩
  have hd1 : decide (1048576 < (n1:Int)) = false := by simp; omega
  go_enter Try.func3, Try.ntmps3
  go_wp2_with fail
  refine (drawDbPut _ _ H.out).mono ?_
  rintro e w1 ⟨va, vu, db, o, s, es, rfl, h1, h2, hb1⟩
  have BW := Lib.hid hb1
  obtain ⟨xa, xn, xc, rfl⟩ := h1.form
  obtain ⟨ya, yn, yc, rfl⟩ := h2.form
  have X := Lib.hid h1; have Y := Lib.hid h2
  obtain ⟨⟨p, c⟩, hp⟩ : ∃ p, putOf db (o, s, es) = p := ⟨_, rfl⟩
  have HP := Lib.hid hp
  clear hb1 h1 h2 hp
  go_wp2_with fail
  refine (iDbPut db o s es _ _ _ (X.out.below (by with_reducible (repeat (first | (refine below_drewN ?_ _) | (refine Below.drew ?_) | (refine below_alloc ?_ (by first | omega | (simp; done) | (simp; omega)) _) | (refine Below.setCell ?_ (by first | omega | (simp; done) | (simp; omega)) _) | exact Below.refl _ _ | assumption | (refine below_call ?_ (by first | omega | (simp; done) | (simp; omega)) (by assumption))))) (Nat.le_refl _)) (Y.out.below (by with_reducible (repeat (first | (refine below_drewN ?_ _) | (refine Below.drew ?_) | (refine below_alloc ?_ (by first | omega | (simp; done) | (simp; omega)) _) | (refine Below.setCell ?_ (by first | omega | (simp; done) | (simp; omega)) _) | exact Below.refl _ _ | assumption | (refine below_call ?_ (by first | omega | (simp; done) | (simp; omega)) (by assumption))))) (Nat.le_refl _))).mono ?_
  rw [HP.out]
  rintro e w2 ⟨v2, us2, rfl, hO, hb⟩
  have kk := Lib.hid (below_call (B := w1.heap.size) (a := w1) (by with_reducible (repeat (first | (refine below_drewN ?_ _) | (refine Below.drew ?_) | (refine below_alloc ?_ (by first | omega | (simp; done) | (simp; omega)) _) | (refine Below.setCell ?_ (by first | omega | (simp; done) | (simp; omega)) _) | exact Below.refl _ _ | assumption | (refine below_call ?_ (by first | omega | (simp; done) | (simp; omega)) (by assumption))))) (Nat.le_refl _) hb)
  replace BW := Lib.hid (BW.out.trans (kk.out.mono BW.out.size))
  replace X := Lib.hid (X.out.below kk.out (Nat.le_refl _))
  replace Y := Lib.hid (Y.out.below kk.out (Nat.le_refl _))
  have L := Lib.hid (Box.call (b := w1.heap.size) (c := #[.int .i64 o, .int .i64 s, .slice ya yn yc]) (t := 26) hb (by with_reducible (repeat (first | (refine box_at _ _ _ ?_; first | rfl | (simp; done)) | apply Box.alloc | apply Box.drewN | apply Box.drew))))
  obtain ⟨L_0, L_1, L_2, L_3, L_4, L_5, L_6⟩ := box3 L.out
  have P2 := Lib.hid hO.at_
  simp only at P2
  obtain ⟨pa, pn, pc, rfl⟩ := P2.out.form
  clear hb hO kk
  go_wp2_with fail
  refine (sDbPut db o s es _ _ _ X.out Y.out).mono ?_
  rw [HP.out]
  rintro e w3 ⟨v3, us3, rfl, hO, hb⟩
  have kk := Lib.hid (below_call (B := w2.heap.size) (a := w2) (by with_reducible (repeat (first | (refine below_drewN ?_ _) | (refine Below.drew ?_) | (refine below_alloc ?_ (by first | omega | (simp; done) | (simp; omega)) _) | (refine Below.setCell ?_ (by first | omega | (simp; done) | (simp; omega)) _) | exact Below.refl _ _ | assumption | (refine below_call ?_ (by first | omega | (simp; done) | (simp; omega)) (by assumption))))) (Nat.le_refl _) hb)
  replace BW := Lib.hid (BW.out.trans (kk.out.mono BW.out.size))
  replace X := Lib.hid (X.out.below kk.out (Nat.le_refl _))
  replace Y := Lib.hid (Y.out.below kk.out (Nat.le_refl _))
  replace P2 := Lib.hid (P2.out.below kk.out (Nat.le_refl _))
  replace L := Lib.hid (L.out.below kk.out L.out.lt)
  clear L_0 L_1 L_2 L_3 L_4 L_5 L_6
  obtain ⟨L_0, L_1, L_2, L_3, L_4, L_5, L_6⟩ := box3 L.out
  have P3 := Lib.hid hO.at_
  simp only at P3
  obtain ⟨qa, qn, qc, rfl⟩ := P3.out.form
  clear hb hO kk
  have hcc : (c != c) = false := by simp
  have hcc2 : (c == c) = true := by simp
  go_wp2_with fail
  refine (sameDb_any p p _ _ _ P2.out P3.out).mono ?_
  rw [eqB_self]
  rintro e w4 ⟨rfl, hb⟩
  have kk := Lib.hid (below_call (B := w3.heap.size) (a := w3) (by with_reducible (repeat (first | (refine below_drewN ?_ _) | (refine Below.drew ?_) | (refine below_alloc ?_ (by first | omega | (simp; done) | (simp; omega)) _) | (refine Below.setCell ?_ (by first | omega | (simp; done) | (simp; omega)) _) | exact Below.refl _ _ | assumption | (refine below_call ?_ (by first | omega | (simp; done) | (simp; omega)) (by assumption))))) (Nat.le_refl _) hb)
  replace BW := Lib.hid (BW.out.trans (kk.out.mono BW.out.size))
  replace X := Lib.hid (X.out.below kk.out (Nat.le_refl _))
  replace Y := Lib.hid (Y.out.below kk.out (Nat.le_refl _))
  replace P2 := Lib.hid (P2.out.below kk.out (Nat.le_refl _))
  replace P3 := Lib.hid (P3.out.below kk.out (Nat.le_refl _))
  replace L := Lib.hid (L.out.below kk.out L.out.lt)
  clear L_0 L_1 L_2 L_3 L_4 L_5 L_6
  obtain ⟨L_0, L_1, L_2, L_3, L_4, L_5, L_6⟩ := box3 L.out
  clear hb kk
  rcases Bool.eq_false_or_eq_true (c == 3) with h3 | h3
  · go_wp2_with fail
    refine (sameDb_any p p _ _ _ P2.out P3.out).mono ?_
    rw [eqB_self]
    rintro e w5 ⟨rfl, hb⟩
    have kk := Lib.hid (below_call (B := w4.heap.size) (a := w4) (by with_reducible (repeat (first | (refine below_drewN ?_ _) | (refine Below.drew ?_) | (refine below_alloc ?_ (by first | omega | (simp; done) | (simp; omega)) _) | (refine Below.setCell ?_ (by first | omega | (simp; done) | (simp; omega)) _) | exact Below.refl _ _ | assumption | (refine below_call ?_ (by first | omega | (simp; done) | (simp; omega)) (by assumption))))) (Nat.le_refl _) hb)
    replace BW := Lib.hid (BW.out.trans (kk.out.mono BW.out.size))
    clear hb kk
    go_wp2_with fail
    go_ret
    exact ⟨rfl, BW.out⟩
  have hok : dbOk db = true ∧ lsaOk o s es = true := by
    rcases Bool.eq_false_or_eq_true (dbOk db && lsaOk o s es) with h | h
    · simpa using h
    · have := HP.out
      rw [putOf_bad h] at this
      injection this with _ e
      rw [← e] at h3
      simp at h3
  have hpd : putD db (o, s, es) = (p, c) := by rw [← HP.out]; exact (putOf_ok (l := (o, s, es)) hok.1 hok.2).symm
  have hpo : dbOk p = true := by have := putD_ok (l := (o, s, es)) hok.1 hok.2; rw [hpd] at this; exact this
  have hs1 : 1 ≤ s := lsa_seq (l := (o, s, es)) hok.2
  have hsq : ∀ x, seqB p x = if x = o then max (seqB db x) s else seqB db x := fun x => by
    have := putD_seq (l := (o, s, es)) (dbOk_iff.1 hok.1).2 hs1 x
    rw [hpd] at this
    exact this
  have hcd : c = if seqB db o < s then 0 else if seqB db o = s then 1 else 2 := by
    have := putD_code (db := db) (l := (o, s, es)) hs1
    rw [hpd] at this
    exact this
  have HOK := Lib.hid hok; have HPD := Lib.hid hpd; have HPO := Lib.hid hpo; have HS1 := Lib.hid hs1
  clear hok hpd hpo hs1 hsq hcd
  go_wp2_with fail
  refine (drawDbPut _ _ (codeAt_below M.out BW.out)).mono ?_
  rintro e w5 ⟨va2, vu2, db2, o2, s2, es2, rfl, _, g2, hb⟩
  have kk := Lib.hid (below_call (B := w4.heap.size) (a := w4) (by with_reducible (repeat (first | (refine below_drewN ?_ _) | (refine Below.drew ?_) | (refine below_alloc ?_ (by first | omega | (simp; done) | (simp; omega)) _) | (refine Below.setCell ?_ (by first | omega | (simp; done) | (simp; omega)) _) | exact Below.refl _ _ | assumption | (refine below_call ?_ (by first | omega | (simp; done) | (simp; omega)) (by assumption))))) (Nat.le_refl _) hb)
  replace BW := Lib.hid (BW.out.trans (kk.out.mono BW.out.size))
  replace X := Lib.hid (X.out.below kk.out (Nat.le_refl _))
  replace Y := Lib.hid (Y.out.below kk.out (Nat.le_refl _))
  replace P2 := Lib.hid (P2.out.below kk.out (Nat.le_refl _))
  replace L := Lib.hid (L.out.below kk.out L.out.lt)
  clear L_0 L_1 L_2 L_3 L_4 L_5 L_6
  obtain ⟨L_0, L_1, L_2, L_3, L_4, L_5, L_6⟩ := box3 L.out
  obtain ⟨za, zn, zc, rfl⟩ := g2.form
  have U := Lib.hid g2
  clear hb kk g2
  rename_i hva2
  obtain ⟨ta, tn, tc, rfl⟩ := hva2.form
  clear hva2
  go_wp2_with fail
  refine (iLsaValid o2 s2 _ es2 _ (U.out.below (by with_reducible (repeat (first | (refine below_drewN ?_ _) | (refine Below.drew ?_) | (refine below_alloc ?_ (by first | omega | (simp; done) | (simp; omega)) _) | (refine Below.setCell ?_ (by first | omega | (simp; done) | (simp; omega)) _) | exact Below.refl _ _ | assumption | (refine below_call ?_ (by first | omega | (simp; done) | (simp; omega)) (by assumption))))) (Nat.le_refl _))).mono ?_
  obtain ⟨lv, hlv⟩ : ∃ b, lsaOk o2 s2 es2 = b := ⟨_, rfl⟩
  have HLV := Lib.hid hlv
  rw [hlv]
  rintro e w6 ⟨rfl, hb⟩
  have kk := Lib.hid (below_call (B := w5.heap.size) (a := w5) (by with_reducible (repeat (first | (refine below_drewN ?_ _) | (refine Below.drew ?_) | (refine below_alloc ?_ (by first | omega | (simp; done) | (simp; omega)) _) | (refine Below.setCell ?_ (by first | omega | (simp; done) | (simp; omega)) _) | exact Below.refl _ _ | assumption | (refine below_call ?_ (by first | omega | (simp; done) | (simp; omega)) (by assumption))))) (Nat.le_refl _) hb)
  replace BW := Lib.hid (BW.out.trans (kk.out.mono BW.out.size))
  replace X := Lib.hid (X.out.below kk.out (Nat.le_refl _))
  replace Y := Lib.hid (Y.out.below kk.out (Nat.le_refl _))
  replace P2 := Lib.hid (P2.out.below kk.out (Nat.le_refl _))
  replace U := Lib.hid (U.out.below kk.out (Nat.le_refl _))
  replace L := Lib.hid (L.out.below kk.out L.out.lt)
  clear L_0 L_1 L_2 L_3 L_4 L_5 L_6
  obtain ⟨L_0, L_1, L_2, L_3, L_4, L_5, L_6⟩ := box3 L.out
  have Q := Lib.hid (Box.call (b := w5.heap.size) (c := #[.int .i64 o2, .int .i64 s2, .slice za zn zc]) (t := 26) hb (by with_reducible (repeat (first | (refine box_at _ _ _ ?_; first | rfl | (simp; done)) | apply Box.alloc | apply Box.drewN | apply Box.drew))))
  obtain ⟨Q_0, Q_1, Q_2, Q_3, Q_4, Q_5, Q_6⟩ := box3 Q.out
  clear hb kk hlv
  cases lv
  · go_wp2_with fail
    go_ret
    exact ⟨rfl, BW.out⟩
  have hne0 : Hid (∀ b1 b2 : Bool, (o2 == o) = b1 → (s2 == s) = b2 → (b1 && b2) = false → ¬ (o2 = o ∧ s2 = s)) := Lib.hid fun b1 b2 h1 h2 h => by
    rintro ⟨rfl, rfl⟩
    subst h1 h2
    simp at h
  have key : Hid (¬ (o2 = o ∧ s2 = s) → ∃ r c1 c2 r1 c3, putOf p (o2, s2, es2) = (r, c1) ∧ putOf db (o2, s2, es2) = (r1, c2) ∧ putOf r1 (o, s, es) = (r, c3)) := Lib.hid fun hne => by
    have a1 := putOf_ok (l := (o2, s2, es2)) HPO.out HLV.out
    have a2 := putOf_ok (l := (o2, s2, es2)) HOK.out.1 HLV.out
    have a3 := putOf_ok (l := (o, s, es)) (putD_ok (l := (o2, s2, es2)) HOK.out.1 HLV.out) HOK.out.2
    have a4 := putD_order (l := (o, s, es)) (u := (o2, s2, es2)) (dbOk_iff.1 HOK.out.1).2 HS1.out (lsa_seq (l := (o2, s2, es2)) HLV.out) hne
    rw [HPD.out] at a4
    refine ⟨(putD p (o2, s2, es2)).1, (putD p (o2, s2, es2)).2, (putD db (o2, s2, es2)).2, (putD db (o2, s2, es2)).1, (putD (putD db (o2, s2, es2)).1 (o, s, es)).2, a1, a2, ?_⟩
    rw [a3, a4]
  rcases Bool.eq_false_or_eq_true (o2 == o) with h1 | h1
  · rcases Bool.eq_false_or_eq_true (s2 == s) with h2 | h2
    · go_wp2_with fail
      go_ret
      exact ⟨rfl, BW.out⟩
    obtain ⟨r, c1, c2, r1, c3, k1, k2, k3⟩ := key.out (hne0.out _ _ h1 h2 rfl)
    have K1 := Lib.hid k1; have K2 := Lib.hid k2; have K3 := Lib.hid k3
    clear k1 k2 k3
    go_wp2_with fail
    refine (iDbPut p o2 s2 es2 _ _ _ P2.out U.out).mono ?_
    rw [K1.out]
    rintro e w7 ⟨v7, us7, rfl, hO, hb⟩
    have kk := Lib.hid (below_call (B := w6.heap.size) (a := w6) (by with_reducible (repeat (first | (refine below_drewN ?_ _) | (refine Below.drew ?_) | (refine below_alloc ?_ (by first | omega | (simp; done) | (simp; omega)) _) | (refine Below.setCell ?_ (by first | omega | (simp; done) | (simp; omega)) _) | exact Below.refl _ _ | assumption | (refine below_call ?_ (by first | omega | (simp; done) | (simp; omega)) (by assumption))))) (Nat.le_refl _) hb)
    replace BW := Lib.hid (BW.out.trans (kk.out.mono BW.out.size))
    replace X := Lib.hid (X.out.below kk.out (Nat.le_refl _))
    replace Y := Lib.hid (Y.out.below kk.out (Nat.le_refl _))
    replace U := Lib.hid (U.out.below kk.out (Nat.le_refl _))
    replace L := Lib.hid (L.out.below kk.out L.out.lt)
    clear L_0 L_1 L_2 L_3 L_4 L_5 L_6
    obtain ⟨L_0, L_1, L_2, L_3, L_4, L_5, L_6⟩ := box3 L.out
    replace Q := Lib.hid (Q.out.below kk.out Q.out.lt)
    clear Q_0 Q_1 Q_2 Q_3 Q_4 Q_5 Q_6
    obtain ⟨Q_0, Q_1, Q_2, Q_3, Q_4, Q_5, Q_6⟩ := box3 Q.out
    have P7 := Lib.hid hO.at_
    simp only at P7
    obtain ⟨ra, rn, rc, rfl⟩ := P7.out.form
    clear hb hO kk
    go_wp2_with fail
    refine (iDbPut db o2 s2 es2 _ _ _ X.out U.out).mono ?_
    rw [K2.out]
    rintro e w8 ⟨v8, us8, rfl, hO, hb⟩
    have kk := Lib.hid (below_call (B := w7.heap.size) (a := w7) (by with_reducible (repeat (first | (refine below_drewN ?_ _) | (refine Below.drew ?_) | (refine below_alloc ?_ (by first | omega | (simp; done) | (simp; omega)) _) | (refine Below.setCell ?_ (by first | omega | (simp; done) | (simp; omega)) _) | exact Below.refl _ _ | assumption | (refine below_call ?_ (by first | omega | (simp; done) | (simp; omega)) (by assumption))))) (Nat.le_refl _) hb)
    replace BW := Lib.hid (BW.out.trans (kk.out.mono BW.out.size))
    replace Y := Lib.hid (Y.out.below kk.out (Nat.le_refl _))
    replace P7 := Lib.hid (P7.out.below kk.out (Nat.le_refl _))
    replace L := Lib.hid (L.out.below kk.out L.out.lt)
    clear L_0 L_1 L_2 L_3 L_4 L_5 L_6
    obtain ⟨L_0, L_1, L_2, L_3, L_4, L_5, L_6⟩ := box3 L.out
    have P8 := Lib.hid hO.at_
    simp only at P8
    obtain ⟨sa, sn, sc, rfl⟩ := P8.out.form
    clear hb hO kk
    go_wp2_with fail
    refine (iDbPut r1 o s es _ _ _ P8.out Y.out).mono ?_
    rw [K3.out]
    rintro e w9 ⟨v9, us9, rfl, hO, hb⟩
    have kk := Lib.hid (below_call (B := w8.heap.size) (a := w8) (by with_reducible (repeat (first | (refine below_drewN ?_ _) | (refine Below.drew ?_) | (refine below_alloc ?_ (by first | omega | (simp; done) | (simp; omega)) _) | (refine Below.setCell ?_ (by first | omega | (simp; done) | (simp; omega)) _) | exact Below.refl _ _ | assumption | (refine below_call ?_ (by first | omega | (simp; done) | (simp; omega)) (by assumption))))) (Nat.le_refl _) hb)
    replace BW := Lib.hid (BW.out.trans (kk.out.mono BW.out.size))
    replace P7 := Lib.hid (P7.out.below kk.out (Nat.le_refl _))
    have P9 := Lib.hid hO.at_
    simp only at P9
    obtain ⟨ia, iN, ic, rfl⟩ := P9.out.form
    clear hb hO kk
    go_wp2_with fail
    refine (sameDb_any r r _ _ _ P7.out P9.out).mono ?_
    rw [eqB_self]
    rintro e w10 ⟨rfl, hb⟩
    have kk := Lib.hid (below_call (B := w9.heap.size) (a := w9) (by with_reducible (repeat (first | (refine below_drewN ?_ _) | (refine Below.drew ?_) | (refine below_alloc ?_ (by first | omega | (simp; done) | (simp; omega)) _) | (refine Below.setCell ?_ (by first | omega | (simp; done) | (simp; omega)) _) | exact Below.refl _ _ | assumption | (refine below_call ?_ (by first | omega | (simp; done) | (simp; omega)) (by assumption))))) (Nat.le_refl _) hb)
    replace BW := Lib.hid (BW.out.trans (kk.out.mono BW.out.size))
    clear hb kk
    go_wp2_with fail
    go_ret
    exact ⟨rfl, BW.out⟩
  obtain ⟨r, c1, c2, r1, c3, k1, k2, k3⟩ := key.out (fun h => by rw [h.1] at h1; simp at h1)
  have K1 := Lib.hid k1; have K2 := Lib.hid k2; have K3 := Lib.hid k3
  clear k1 k2 k3
  go_wp2_with fail
  refine (iDbPut p o2 s2 es2 _ _ _ P2.out U.out).mono ?_
  rw [K1.out]
  rintro e w7 ⟨v7, us7, rfl, hO, hb⟩
  have kk := Lib.hid (below_call (B := w6.heap.size) (a := w6) (by with_reducible (repeat (first | (refine below_drewN ?_ _) | (refine Below.drew ?_) | (refine below_alloc ?_ (by first | omega | (simp; done) | (simp; omega)) _) | (refine Below.setCell ?_ (by first | omega | (simp; done) | (simp; omega)) _) | exact Below.refl _ _ | assumption | (refine below_call ?_ (by first | omega | (simp; done) | (simp; omega)) (by assumption))))) (Nat.le_refl _) hb)
  replace BW := Lib.hid (BW.out.trans (kk.out.mono BW.out.size))
  replace X := Lib.hid (X.out.below kk.out (Nat.le_refl _))
  replace Y := Lib.hid (Y.out.below kk.out (Nat.le_refl _))
  replace U := Lib.hid (U.out.below kk.out (Nat.le_refl _))
  replace L := Lib.hid (L.out.below kk.out L.out.lt)
  clear L_0 L_1 L_2 L_3 L_4 L_5 L_6
  obtain ⟨L_0, L_1, L_2, L_3, L_4, L_5, L_6⟩ := box3 L.out
  replace Q := Lib.hid (Q.out.below kk.out Q.out.lt)
  clear Q_0 Q_1 Q_2 Q_3 Q_4 Q_5 Q_6
  obtain ⟨Q_0, Q_1, Q_2, Q_3, Q_4, Q_5, Q_6⟩ := box3 Q.out
  have P7 := Lib.hid hO.at_
  simp only at P7
  obtain ⟨ra, rn, rc, rfl⟩ := P7.out.form
  clear hb hO kk
  go_wp2_with fail
  refine (iDbPut db o2 s2 es2 _ _ _ X.out U.out).mono ?_
  rw [K2.out]
  rintro e w8 ⟨v8, us8, rfl, hO, hb⟩
  have kk := Lib.hid (below_call (B := w7.heap.size) (a := w7) (by with_reducible (repeat (first | (refine below_drewN ?_ _) | (refine Below.drew ?_) | (refine below_alloc ?_ (by first | omega | (simp; done) | (simp; omega)) _) | (refine Below.setCell ?_ (by first | omega | (simp; done) | (simp; omega)) _) | exact Below.refl _ _ | assumption | (refine below_call ?_ (by first | omega | (simp; done) | (simp; omega)) (by assumption))))) (Nat.le_refl _) hb)
  replace BW := Lib.hid (BW.out.trans (kk.out.mono BW.out.size))
  replace Y := Lib.hid (Y.out.below kk.out (Nat.le_refl _))
  replace P7 := Lib.hid (P7.out.below kk.out (Nat.le_refl _))
  replace L := Lib.hid (L.out.below kk.out L.out.lt)
  clear L_0 L_1 L_2 L_3 L_4 L_5 L_6
  obtain ⟨L_0, L_1, L_2, L_3, L_4, L_5, L_6⟩ := box3 L.out
  have P8 := Lib.hid hO.at_
  simp only at P8
  obtain ⟨sa, sn, sc, rfl⟩ := P8.out.form
  clear hb hO kk
  go_wp2_with fail
  refine (iDbPut r1 o s es _ _ _ P8.out Y.out).mono ?_
  rw [K3.out]
  rintro e w9 ⟨v9, us9, rfl, hO, hb⟩
  have kk := Lib.hid (below_call (B := w8.heap.size) (a := w8) (by with_reducible (repeat (first | (refine below_drewN ?_ _) | (refine Below.drew ?_) | (refine below_alloc ?_ (by first | omega | (simp; done) | (simp; omega)) _) | (refine Below.setCell ?_ (by first | omega | (simp; done) | (simp; omega)) _) | exact Below.refl _ _ | assumption | (refine below_call ?_ (by first | omega | (simp; done) | (simp; omega)) (by assumption))))) (Nat.le_refl _) hb)
  replace BW := Lib.hid (BW.out.trans (kk.out.mono BW.out.size))
  replace P7 := Lib.hid (P7.out.below kk.out (Nat.le_refl _))
  have P9 := Lib.hid hO.at_
  simp only at P9
  obtain ⟨ia, iN, ic, rfl⟩ := P9.out.form
  clear hb hO kk
  go_wp2_with fail
  refine (sameDb_any r r _ _ _ P7.out P9.out).mono ?_
  rw [eqB_self]
  rintro e w10 ⟨rfl, hb⟩
  have kk := Lib.hid (below_call (B := w9.heap.size) (a := w9) (by with_reducible (repeat (first | (refine below_drewN ?_ _) | (refine Below.drew ?_) | (refine below_alloc ?_ (by first | omega | (simp; done) | (simp; omega)) _) | (refine Below.setCell ?_ (by first | omega | (simp; done) | (simp; omega)) _) | exact Below.refl _ _ | assumption | (refine below_call ?_ (by first | omega | (simp; done) | (simp; omega)) (by assumption))))) (Nat.le_refl _) hb)
  replace BW := Lib.hid (BW.out.trans (kk.out.mono BW.out.size))
  clear hb kk
  go_wp2_with fail
  go_ret
  exact ⟨rfl, BW.out⟩
theorem own : ownKnob Try.prog.godebug = none := by kernel_rfl
theorem laidOut : laidOutB Try.prog = true := by kernel_rfl
set_option maxRecDepth 100000 in
theorem lifted (os : Os) (started : os.Started) (H : Type) (enc : TypeId × Value → H) :
    ReturnsInHanded {} Try.checked os 3 .any (Rows.fnDbPutOrderSpec.pre6 enc Try.prog Try.f3 Rows.fnDbPutOrderRow.domain false) (Rows.fnDbPutOrderSpec.post enc Try.prog Try.f3 false true false false) := by
  refine returnsInHanded_of_change (C := Try.checked) own started (by kernel_rfl) Try.func3
    (ChangeSpec.witness6 (enc := enc) (C := Try.checked) false ⟨#[], #[.slice none 0 0, .slice none 0 0], []⟩ 8 (by kernel_rfl) (by kernel_rfl) (by kernel_rfl) (by kernel_rfl)) ?_
  intro W base args ds gs before hval0 hW hcnd _
  have hval : ∀ (j : Nat) t v, Try.f3.params[j]? = some t → args[j]? = some v → Value.okWide Try.prog W .any base t v := hval0
  have hW' := hW
  obtain ⟨p, q, hA0, hV, rfl, hfz, hnd⟩ := hW
  have hA : DataW.TrodAll enc Try.prog W 0 (fun _ => true) true Try.f3.params.toList args.toList ds p := hA0
  rw [Try.params3] at hA hval
  obtain ⟨v0, vs0, d0, ds0, p0, q0, hargs, rfl, rfl, h0, r0⟩ := trodAll_cons hA
  obtain ⟨v1, vs1, d1, ds1, p1, q1, rfl, rfl, rfl, h1, r1⟩ := trodAll_cons r0
  obtain ⟨rfl, rfl, rfl⟩ := trodAll_nil r1
  obtain rfl : args = #[v0, v1] := by cases args; simp_all
  obtain ⟨rfl, rfl⟩ := trodVars_none hV
  have k0 := h0
  have lt0 : ∀ x ∈ p0, x.block < W.heap.size := by obtain ⟨m, hm⟩ := k0; exact DataW.trod_lt m _ _ _ hm
  have w0 : CodeAt W v0 := codeAt_of_trod (T := 22) (E := 5) Try.underlying22 Try.underlying5 (by kernel_rfl) (hval 0 22 v0 rfl rfl) h0
  have k1 := h1
  have lt1 : ∀ x ∈ p1, x.block < W.heap.size := by obtain ⟨m, hm⟩ := k1; exact DataW.trod_lt m _ _ _ hm
  have w1 : CodeAt W v1 := codeAt_of_trod (T := 22) (E := 5) Try.underlying22 Try.underlying5 (by kernel_rfl) (hval 1 22 v1 rfl rfl) h1
  clear hA0 hval0
  refine (walk v0 v1 W w0 w1).mono fun e W' ⟨he, bel⟩ => ?_
  subst he
  exact ⟨_, rfl, _, _, _, [], _, [], hW', trodAll_mk1 (shut_bool Try.underlying4 _), (trodAll_cons_mk (Below.trod laidOut (by kernel_rfl) (of_decide_eq_true (by kernel_rfl)) k0 bel lt0) (trodAll_cons_mk (Below.trod laidOut (by kernel_rfl) (of_decide_eq_true (by kernel_rfl)) k1 bel lt1) trodAll_mk0)), rfl, bel.frame _, fun h => by cases h⟩
theorem over : Rows.fnDbPutOrderRow.holds Try.pinned (OpenSpec.ofChange Rows.fnDbPutOrderSpec) :=
  OpenClaim.holds_of_wide 3 Try.f3 rfl rfl rfl rfl rfl rfl rfl ⟨rfl, rfl, rfl, rfl, rfl⟩ rfl rfl rfl rfl rfl (by kernel_rfl) Try.func3 (by kernel_rfl)
    (of_decide_eq_true (by kernel_rfl)) (by unfold Func.isWrapper; first | (rw [if_pos (by decide +kernel)]; kernel_rfl) | (rw [if_neg (by decide +kernel)]; exact ⟨rfl, rfl⟩))
    (fun os started H enc _ => lifted os started H enc)
end Go.Proofs.Ytidcpdolcbbnjaa.lawFnDbPutOrder
namespace Go.Proofs.Ytidcpdolcbbnjaa
/-- The statement. -/
theorem FnDbPutOrder_proved : Rows.FnDbPutOrderSaid := lawFnDbPutOrder.over
#print axioms FnDbPutOrder_proved
end Go.Proofs.Ytidcpdolcbbnjaa
