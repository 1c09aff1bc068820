/- put, DbPut of the program: what they return is putD, putOf, in new memory. -/
import Derived.Test.YtnnkdoomjkccgaaClone
import Derived.Test.YtnnkdoomjkccgaaIns
import Derived.Test.YtnnkdoomjkccgaaPureIns
import Derived.Test.YtnnkdoomjkccgaaPut2
import Derived.Test.YtnnkdoomjkccgaaPlace
namespace Go.Proofs.Ytnnkdoomjkccgaa
set_option linter.unusedSimpArgs false
set_option linter.unusedVariables false
open Go.RowKit

/-- What the switch of put comes to. -/
theorem put_class2 {db : List LsaD} {l : LsaD} {i : Nat} {kn : Bool} (hs : ascD db) (h : PlaceOk db l.1 i kn) :
    (kn = true ∧ ∃ d, db[i]? = some d ∧ d.2.1 = l.2.1 ∧ putD db l = (db, 1)) ∨ (kn = true ∧ ∃ d, db[i]? = some d ∧ l.2.1 < d.2.1 ∧ putD db l = (db, 2)) ∨ (kn = true ∧ ∃ d, db[i]? = some d ∧ d.2.1 < l.2.1 ∧ putD db l = (db.set i l, 0)) ∨ (kn = false ∧ putD db l = (db.take i ++ l :: db.drop i, 0)) := by
  cases kn with
  | false => exact .inr (.inr (.inr ⟨rfl, by rw [putD_new (place_no hs h), insD_no hs h]⟩))
  | true =>
    obtain ⟨d, hd, ho, hf⟩ := place_yes h
    rcases Int.lt_trichotomy d.2.1 l.2.1 with hc | hc | hc
    · exact .inr (.inr (.inl ⟨rfl, d, hd, hc, by rw [putD_newer hf hc, insD_yes hs h]⟩))
    · exact .inl ⟨rfl, d, hd, hc, putD_same hf hc⟩
    · exact .inr (.inl ⟨rfl, d, hd, hc, putD_older hf hc⟩)
set_option maxRecDepth 100000 in
set_option maxHeartbeats 2000000 in
theorem put_any (db : List LsaD) (o s : Int) (es : List (Int × Int)) (v u : Value) (w : World) (hv : LsasAt w v db) (hu : PairsAt w u es) (hs : ascD db) (hsm : SmallDb db) (hes : es.length ≤ 1048576) :
    Calls Try.prog 66 #[v, .agg #[.int .i64 o, .int .i64 s, u]] w (MadePut w (putD db (o, s, es))) := by
  have HV := Lib.hid hv; have HU := Lib.hid hu; have HS := Lib.hid hs; have HSM := Lib.hid hsm; have HES := Lib.hid hes
  obtain ⟨va, vn, vc, rfl⟩ := hv.form
  obtain ⟨ua, un, uc, rfl⟩ := hu.form
  clear hv hu hs hsm hes
  go_enter Try.func66, Try.ntmps66
  go_wp2_with fail
  refine (copyDb_any db _ _ (HV.out.below (by with_reducible (repeat (first | (refine below_drewN ?_ _) | (refine Below.drew ?_) | (refine below_alloc ?_ (by first | omega | (simp; done) | (simp; omega)) _) | (refine Below.setCell ?_ (by first | omega | (simp; done) | (simp; omega)) _) | exact Below.refl _ _ | assumption | (refine below_call ?_ (by first | omega | (simp; done) | (simp; omega)) (by assumption))))) (Nat.le_refl _)) HSM.out).mono ?_
  rintro e w1 ⟨r, us, rfl, hO, hb⟩
  have BW := Lib.hid (Below.refl w.heap.size w)
  have kk := Lib.hid (below_call (B := w.heap.size) (a := w) (by with_reducible (repeat (first | (refine below_drewN ?_ _) | (refine Below.drew ?_) | (refine below_alloc ?_ (by first | omega | (simp; done) | (simp; omega)) _) | (refine Below.setCell ?_ (by first | omega | (simp; done) | (simp; omega)) _) | exact Below.refl _ _ | assumption | (refine below_call ?_ (by first | omega | (simp; done) | (simp; omega)) (by assumption))))) (Nat.le_refl _) hb)
  replace BW := Lib.hid (BW.out.trans (kk.out.mono BW.out.size))
  have L := Lib.hid (Box.call (b := w.heap.size) (c := #[.int .i64 o, .int .i64 s, .slice ua un uc]) (t := 41) hb (by with_reducible (repeat (first | (refine box_at _ _ _ ?_; first | rfl | (simp; done)) | apply Box.alloc | apply Box.drewN | apply Box.drew))))
  obtain ⟨L_0, L_1, L_2, L_3, L_4, L_5, L_6⟩ := box3 L.out
  have O1 : Hid (RowLs w1 (w.heap.size + 1) r db us) := Lib.hid (rowLs_of (by simpa using hO))
  have hsw := BW.out.size
  clear hb kk hO
  obtain ⟨ra, rc, rfl⟩ := own_slice O1.out.1
  go_wp2_with fail
  refine (search_place db o _ _ HS.out O1.out.own.at_ (HSM.out.1)).mono ?_
  rintro e w2 ⟨i, kn, rfl, hpl, hb⟩
  have kk := Lib.hid (below_call (B := w1.heap.size) (a := w1) (by with_reducible (repeat (first | (refine below_drewN ?_ _) | (refine Below.drew ?_) | (refine below_alloc ?_ (by first | omega | (simp; done) | (simp; omega)) _) | (refine Below.setCell ?_ (by first | omega | (simp; done) | (simp; omega)) _) | exact Below.refl _ _ | assumption | (refine below_call ?_ (by first | omega | (simp; done) | (simp; omega)) (by assumption))))) (Nat.le_refl _) hb)
  replace BW := Lib.hid (BW.out.trans (kk.out.mono BW.out.size))
  replace L := Lib.hid (L.out.below kk.out L.out.lt)
  clear L_0 L_1 L_2 L_3 L_4 L_5 L_6
  obtain ⟨L_0, L_1, L_2, L_3, L_4, L_5, L_6⟩ := box3 L.out
  replace O1 := Lib.hid (O1.out.below hb)
  have hs2 := hb.size
  have hsw2 := BW.out.size
  clear hb kk
  have hil := hpl.1
  have hcl := put_class2 (l := (o, s, es)) HS.out hpl
  clear hpl
  obtain ⟨n, hn⟩ : ∃ n, n = db.length := ⟨_, rfl⟩
  rw [← hn] at hil ⊢
  have HN := Lib.hid hn
  have hrow := O1.out.1
  rw [← hn] at hrow
  have hown := O1.out.own
  rw [← hn] at hown
  have HOW := Lib.hid hown
  clear hown
  have hn1 : n ≤ 1048576 := by rw [hn]; exact HSM.out.1
  clear hn
  rcases hcl with ⟨rfl, ⟨xo, xs, xes⟩, hd, hc, hp⟩ | ⟨rfl, ⟨xo, xs, xes⟩, hd, hc, hp⟩ | ⟨rfl, ⟨xo, xs, xes⟩, hd, hc, hp⟩ | ⟨rfl, hp⟩
  · simp only at hc
    subst hc
    have hin : i < n := by rw [HN.out]; exact (List.getElem?_eq_some_iff.1 hd).1
    rcases O1.out.1.2 with ⟨h0, h1⟩ | ⟨g, cap, cur, h0, hlo, hg1, hnc, hm, _⟩
    · have := HN.out; omega
    rw [← HN.out] at h0 hnc
    obtain ⟨rfl, _, rfl⟩ := Value.slice.inj h0
    obtain ⟨xu, hxu⟩ := at_lt (l := us) (n := us.length) rfl (k := i) (by have := O1.out.2.len; have := HN.out; omega)
    obtain ⟨c0, c1, c2⟩ := cellsL_at hd hxu
    have q1 := (hrow.cellAt (i * 3 + 1) (by omega)).trans c1
    have HP := Lib.hid hp
    have hiI : (i:Int) < (n:Int) := by omega
    clear hp hd hxu c0 c1 c2 hg1 h0
    go_wp2_with fail
    go_quiet (fail)
    go_wp2_with fail
    go_ret2
    rw [HP.out]
    exact ⟨_, us, rfl, (HOW.out.drewN _).mono (Nat.le_succ _) (Nat.le_refl _), below_drewN BW.out _⟩
  · simp only at hc
    have hin : i < n := by rw [HN.out]; exact (List.getElem?_eq_some_iff.1 hd).1
    rcases O1.out.1.2 with ⟨h0, h1⟩ | ⟨g, cap, cur, h0, hlo, hg1, hnc, hm, _⟩
    · have := HN.out; omega
    rw [← HN.out] at h0 hnc
    obtain ⟨rfl, _, rfl⟩ := Value.slice.inj h0
    obtain ⟨xu, hxu⟩ := at_lt (l := us) (n := us.length) rfl (k := i) (by have := O1.out.2.len; have := HN.out; omega)
    obtain ⟨c0, c1, c2⟩ := cellsL_at hd hxu
    have q1 := (hrow.cellAt (i * 3 + 1) (by omega)).trans c1
    have HP := Lib.hid hp
    have hiI : (i:Int) < (n:Int) := by omega
    have HXU := Lib.hid hxu; have HD := Lib.hid hd
    clear hp hd hxu c0 c1 c2 hg1 h0
    have e1 : (xs == s) = false := by simp; omega
    have e2 : decide (s < xs) = true := by simp; omega
    clear hc
    go_wp2_with fail
    go_quiet (fail)
    go_wp2_with fail
    go_quiet (fail)
    go_wp2_with fail
    go_ret2
    rw [HP.out]
    exact ⟨_, us, rfl, ((HOW.out.drewN _).drewN _).mono (Nat.le_succ _) (Nat.le_refl _), below_drewN (below_drewN BW.out _) _⟩
  · simp only at hc
    have hin : i < n := by rw [HN.out]; exact (List.getElem?_eq_some_iff.1 hd).1
    rcases O1.out.1.2 with ⟨h0, h1⟩ | ⟨g, cap, cur, h0, hlo, hg1, hnc, hm, _⟩
    · have := HN.out; omega
    rw [← HN.out] at h0 hnc
    obtain ⟨rfl, _, rfl⟩ := Value.slice.inj h0
    obtain ⟨xu, hxu⟩ := at_lt (l := us) (n := us.length) rfl (k := i) (by have := O1.out.2.len; have := HN.out; omega)
    obtain ⟨c0, c1, c2⟩ := cellsL_at hd hxu
    have q1 := (hrow.cellAt (i * 3 + 1) (by omega)).trans c1
    have HP := Lib.hid hp
    have hiI : (i:Int) < (n:Int) := by omega
    have HXU := Lib.hid hxu; have HD := Lib.hid hd
    clear hp hd hxu c0 c1 c2 hg1 h0
    have e1 : (xs == s) = false := by simp; omega
    have e2 : decide (s < xs) = false := by simp; omega
    clear hc
    go_wp2_with fail
    go_quiet (fail)
    go_wp2_with fail
    go_quiet (fail)
    go_wp2_with fail
    refine (copyLsa_any o s es _ _ (HU.out.below (below_drewN BW.out _) (Nat.le_refl _)) HES.out).mono ?_
    rintro e w3 ⟨u3, rfl, hO, hb⟩
    obtain ⟨xa, xc, rfl⟩ := own_slice hO.1
    have O3 := Lib.hid ((O1.out.drewN _).below hb)
    have B3 := Lib.hid ((below_drewN BW.out _).trans (hb.mono hsw2))
    have E3 := Lib.hid (show OwnR w3 w2.heap.size w3.heap.size 43 2 (.slice xa es.length xc) es.length (cells2 es) from hO)
    have hs3 : w2.heap.size ≤ w3.heap.size := hb.size
    have hbb := Lib.hid hb
    have hrow3 := O3.out.1
    rw [← HN.out] at hrow3
    obtain ⟨c0, c1, c2⟩ := cellsL_at HD.out HXU.out
    have y0 := (hrow3.cellAt (i * 3) (by omega)).trans c0
    have y1 := (hrow3.cellAt (i * 3 + 1) (by omega)).trans c1
    have y2 := (hrow3.cellAt (i * 3 + 2) (by omega)).trans c2
    have f0 := hrow3.frozenAt (i * 3)
    have f1 := hrow3.frozenAt (i * 3 + 1)
    have f2 := hrow3.frozenAt (i * 3 + 2)
    have HR3 := Lib.hid hrow3
    clear hO hb hrow3 c0 c1 c2 q1
    go_wp2_with fail
    go_ret2
    rw [HP.out]
    have hul := O1.out.2.len
    have hE3 := ((O1.out.2.drewN _).below hbb.out (Nat.le_refl _)).with_ (db' := db.set i (o, s, es)) (us' := us.set i (.slice xa es.length xc)) (i := i) (o := o) (s := s) (es := es) (u := .slice xa es.length xc) E3.out (Nat.le_refl _) hs3 (by omega) id (by simp [hul]) (fun a b h _ _ => h) (fun k hk => ⟨by rw [List.getElem?_set_ne (fun e => hk e.symm)]; rfl, by rw [List.getElem?_set_ne (fun e => hk e.symm)]; rfl⟩) (List.getElem?_set_self (by rw [← HN.out]; exact hin)) (List.getElem?_set_self (by rw [hul, ← HN.out]; exact hin))
    have hR4 := (((HR3.out.stored (i * 3) (.int .i64 o)).1.stored (i * 3 + 1) (.int .i64 s)).1.stored (i * 3 + 2) (.slice xa es.length xc)).1
    rw [← cellsL_upd db us i o s es _ hul (by rw [← HN.out]; exact hin)] at hR4
    have hg4 : w3.grownBy (((w3.setCell ⟨g, i * 3, none⟩ (.int .i64 o)).setCell ⟨g, i * 3 + 1, none⟩ (.int .i64 s)).setCell ⟨g, i * 3 + 2, none⟩ (.slice xa es.length xc)) (some g) := grown_setCell (grown_setCell (grown_setCell (only_refl _ _) _ _) _ _) _ _
    have hE4 := hE3.block hg4 (fun g' e k u' hu' => by
      injection e with e
      subst e
      obtain ⟨⟨o', s', es'⟩, hd'⟩ := at_lt (l := db.set i (o, s, es)) (n := (db.set i (o, s, es)).length) rfl (k := k) (by have := hE3.len; have := (List.getElem?_eq_some_iff.1 hu').1; omega)
      intro e
      exact own_own_ne (hE3.ends k o' s' es' u' hd' hu').1 HR3.out (by decide) _ e rfl)
    refine ⟨_, us.set i (.slice xa es.length xc), rfl, ⟨OwnR.mono (OwnR.of (?_ : World.ownsRow _ (w.heap.size + 1) _ _ _ _ _)) (Nat.le_succ _) (Nat.le_refl _), hE4.mono (Nat.le_succ _) (by simp)⟩, ?_⟩
    · rw [List.length_set, ← HN.out]; exact hR4
    · have hB := B3.out
      have hg0 : w.heap.size ≤ g := by omega
      exact (by with_reducible (repeat (first | (refine below_drewN ?_ _) | (refine Below.drew ?_) | (refine below_alloc ?_ (by first | omega | (simp; done) | (simp; omega)) _) | (refine Below.setCell ?_ (by first | omega | (simp; done) | (simp; omega)) _) | exact Below.refl _ _ | assumption | (refine below_call ?_ (by first | omega | (simp; done) | (simp; omega)) (by assumption)))))
  · have HP := Lib.hid hp
    clear hp
    go_wp2_with fail
    go_quiet (fail)
    go_wp2_with fail
    go_quiet (fail)
    go_wp2_with fail
    refine (copyLsa_any o s es _ _ (HU.out.below (below_drewN BW.out _) (Nat.le_refl _)) HES.out).mono ?_
    rintro e w3 ⟨u3, rfl, hO, hb⟩
    obtain ⟨xa, xc, rfl⟩ := own_slice hO.1
    have O3 := Lib.hid ((O1.out.drewN _).below hb)
    have B3 := Lib.hid ((below_drewN BW.out _).trans (hb.mono hsw2))
    have E3 := Lib.hid (show OwnR w3 w2.heap.size w3.heap.size 43 2 (.slice xa es.length xc) es.length (cells2 es) from hO)
    have hs3 : w2.heap.size ≤ w3.heap.size := hb.size
    have hbb := Lib.hid hb
    have hrow3 := O3.out.1
    rw [← HN.out] at hrow3
    have HR3 := Lib.hid hrow3
    clear hO hb hrow3
    go_wp2_with fail
    refine (insert_any (w.heap.size + 1) n i w3.heap.size _ (cellsL db us) (.int .i64 o) (.int .i64 s) (.slice xa es.length xc) _ (HR3.out.alloc _) (by simp; omega) hn1 hil (box_new w3 _ _) (fun e => by have := (HR3.out.lt _ e).2; omega) rfl rfl rfl (cellsL_one _ _ O1.out.2.one)).mono ?_
    rintro e w4 ⟨v4, rfl, hown4, hg4⟩
    have hul := O1.out.2.len
    have hdb : n = db.length := HN.out
    rw [← cellsL_ins db us i o s es _ hul (by omega)] at hown4
    have hE3 := ((O1.out.2.drewN _).below hbb.out (Nat.le_refl _)).with_ (db' := db.take i ++ (o, s, es) :: db.drop i) (us' := us.take i ++ .slice xa es.length xc :: us.drop i) (i := i) (o := o) (s := s) (es := es) (u := .slice xa es.length xc) E3.out (Nat.le_refl _) hs3 (by omega) (fun k => if k < i then k else k - 1) (by simp [hul]) (fun a b h _ _ => by show (if a < i then a else a - 1) < (if b < i then b else b - 1); split <;> split <;> omega) (fun k hk => by
      rw [ins_at (by omega), ins_at (by omega)]
      simp only [if_neg hk]
      constructor <;> split <;> rfl) (by rw [ins_at (by omega)]; simp) (by rw [ins_at (by omega)]; simp)
    have hE4 := (hE3.alloc (.cells #[.int .i64 o, .int .i64 s, .slice xa es.length xc] 41)).block hg4 (fun g' e k u' hu' => by
      obtain ⟨⟨o', s', es'⟩, hd'⟩ := at_lt (l := db.take i ++ (o, s, es) :: db.drop i) (n := (db.take i ++ (o, s, es) :: db.drop i).length) rfl (k := k) (by have := hE3.len; have := (List.getElem?_eq_some_iff.1 hu').1; omega)
      exact own_own_ne HR3.out (hE3.ends k o' s' es' u' hd' hu').1 (by decide) _ e)
    have hB4 : Below w.heap.size w w4 := Below.grown (by have := B3.out; exact (by with_reducible (repeat (first | (refine below_drewN ?_ _) | (refine Below.drew ?_) | (refine below_alloc ?_ (by first | omega | (simp; done) | (simp; omega)) _) | (refine Below.setCell ?_ (by first | omega | (simp; done) | (simp; omega)) _) | exact Below.refl _ _ | assumption | (refine below_call ?_ (by first | omega | (simp; done) | (simp; omega)) (by assumption)))))) hg4 (by simp; omega) (fun j hj => by have := (HR3.out.lt j hj).1; omega)
    have hs4 := hg4.size
    have hlen : (db.take i ++ (o, s, es) :: db.drop i).length = n + 1 := by simp; omega
    rw [← hlen] at hown4
    have HR4 : Hid (OwnLs w4 w.heap.size w4.heap.size 41 43 v4 (db.take i ++ (o, s, es) :: db.drop i) (us.take i ++ .slice xa es.length xc :: us.drop i)) := Lib.hid ⟨(OwnR.of hown4).mono (Nat.le_succ _) (Nat.le_refl _), hE4.mono (Nat.le_succ _) (by simp at hs4; omega)⟩
    have HB4 := Lib.hid hB4
    obtain ⟨ya, yn, yc, rfl⟩ := HR4.out.at_.form
    clear hown4 hg4 hE3 hE4 hB4 hlen
    go_wp2_with fail
    go_ret2
    rw [HP.out]
    exact ⟨_, _, rfl, HR4.out, HB4.out⟩
set_option maxHeartbeats 1000000 in
theorem iDbPut (db : List LsaD) (o s : Int) (es : List (Int × Int)) (v u : Value) (w : World) (hv : LsasAt w v db) (hu : PairsAt w u es) :
    Calls Try.prog 35 #[v, .agg #[.int .i64 o, .int .i64 s, u]] w (MadePut w (putOf db (o, s, es))) := by
  have HV := Lib.hid hv; have HU := Lib.hid hu
  obtain ⟨va, vn, vc, rfl⟩ := hv.form
  obtain ⟨ua, un, uc, rfl⟩ := hu.form
  clear hv hu
  have hnil : ∀ W : World, ∀ hi, OwnLs W w.heap.size hi 41 43 (.slice none 0 0) [] [] := fun W hi => ⟨own_nilE _ _ _ _ _, EndsOwn.nil _ _ _ _⟩
  have HNIL := Lib.hid hnil
  clear hnil
  rcases Bool.eq_false_or_eq_true (dbOk db) with h1 | h1
  rotate_left
  · have hp := putOf_bad (db := db) (l := (o, s, es)) (by rw [h1]; rfl)
    have HP := Lib.hid hp; have H1 := Lib.hid h1
    clear hp h1
    go_enter Try.func35, Try.ntmps35
    go_wp2_with fail
    refine (iDbValid db _ _ (HV.out.below (by with_reducible (repeat (first | (refine below_drewN ?_ _) | (refine Below.drew ?_) | (refine below_alloc ?_ (by first | omega | (simp; done) | (simp; omega)) _) | (refine Below.setCell ?_ (by first | omega | (simp; done) | (simp; omega)) _) | exact Below.refl _ _ | assumption | (refine below_call ?_ (by first | omega | (simp; done) | (simp; omega)) (by assumption))))) (Nat.le_refl _))).mono ?_
    rw [H1.out]
    rintro e w1 ⟨rfl, hb⟩
    have hB := below_call (B := w.heap.size) (a := w) (by with_reducible (repeat (first | (refine below_drewN ?_ _) | (refine Below.drew ?_) | (refine below_alloc ?_ (by first | omega | (simp; done) | (simp; omega)) _) | (refine Below.setCell ?_ (by first | omega | (simp; done) | (simp; omega)) _) | exact Below.refl _ _ | assumption | (refine below_call ?_ (by first | omega | (simp; done) | (simp; omega)) (by assumption))))) (Nat.le_refl _) hb
    go_wp2_with fail
    go_ret2
    rw [HP.out]
    exact ⟨_, [], rfl, HNIL.out _ _, hB⟩
  rcases Bool.eq_false_or_eq_true (lsaOk o s es) with h2 | h2
  rotate_left
  · have hp := putOf_bad (db := db) (l := (o, s, es)) (by simp only [h2]; simp)
    have HP := Lib.hid hp; have H1 := Lib.hid h1; have H2 := Lib.hid h2
    clear hp h1 h2
    go_enter Try.func35, Try.ntmps35
    go_wp2_with fail
    refine (iDbValid db _ _ (HV.out.below (by with_reducible (repeat (first | (refine below_drewN ?_ _) | (refine Below.drew ?_) | (refine below_alloc ?_ (by first | omega | (simp; done) | (simp; omega)) _) | (refine Below.setCell ?_ (by first | omega | (simp; done) | (simp; omega)) _) | exact Below.refl _ _ | assumption | (refine below_call ?_ (by first | omega | (simp; done) | (simp; omega)) (by assumption))))) (Nat.le_refl _))).mono ?_
    rw [H1.out]
    rintro e w1 ⟨rfl, hb⟩
    have BW := Lib.hid (Below.refl w.heap.size w)
    have kk := Lib.hid (below_call (B := w.heap.size) (a := w) (by with_reducible (repeat (first | (refine below_drewN ?_ _) | (refine Below.drew ?_) | (refine below_alloc ?_ (by first | omega | (simp; done) | (simp; omega)) _) | (refine Below.setCell ?_ (by first | omega | (simp; done) | (simp; omega)) _) | exact Below.refl _ _ | assumption | (refine below_call ?_ (by first | omega | (simp; done) | (simp; omega)) (by assumption))))) (Nat.le_refl _) hb)
    replace BW := Lib.hid (BW.out.trans (kk.out.mono BW.out.size))
    have L := Lib.hid (Box.call (b := w.heap.size) (c := #[.int .i64 o, .int .i64 s, .slice ua un uc]) (t := 41) hb (by with_reducible (repeat (first | (refine box_at _ _ _ ?_; first | rfl | (simp; done)) | apply Box.alloc | apply Box.drewN | apply Box.drew))))
    obtain ⟨L_0, L_1, L_2, L_3, L_4, L_5, L_6⟩ := box3 L.out
    clear hb kk
    go_wp2_with fail
    refine (iLsaValid o s _ es _ (HU.out.below BW.out (Nat.le_refl _))).mono ?_
    rw [H2.out]
    rintro e w2 ⟨rfl, hb⟩
    have kk := Lib.hid (below_call (B := w1.heap.size) (a := w1) (by with_reducible (repeat (first | (refine below_drewN ?_ _) | (refine Below.drew ?_) | (refine below_alloc ?_ (by first | omega | (simp; done) | (simp; omega)) _) | (refine Below.setCell ?_ (by first | omega | (simp; done) | (simp; omega)) _) | exact Below.refl _ _ | assumption | (refine below_call ?_ (by first | omega | (simp; done) | (simp; omega)) (by assumption))))) (Nat.le_refl _) hb)
    replace BW := Lib.hid (BW.out.trans (kk.out.mono BW.out.size))
    clear hb kk
    go_wp2_with fail
    go_ret2
    rw [HP.out]
    exact ⟨_, [], rfl, HNIL.out _ _, BW.out⟩
  have hp := putOf_ok (db := db) (l := (o, s, es)) h1 h2
  obtain ⟨t1, t2⟩ := tiny_of_ok h1
  have hs := (dbOk_iff.1 h1).2
  have hle := lsaOk_len h2
  have HP := Lib.hid hp; have H1 := Lib.hid h1; have H2 := Lib.hid h2; have HS := Lib.hid hs; have HLE := Lib.hid hle
  have HSM : Hid (SmallDb db) := Lib.hid ⟨by omega, fun k d hd => by have := t2 k d hd; omega⟩
  clear hp h1 h2 t1 t2 hs hle
  go_enter Try.func35, Try.ntmps35
  go_wp2_with fail
  refine (iDbValid db _ _ (HV.out.below (by with_reducible (repeat (first | (refine below_drewN ?_ _) | (refine Below.drew ?_) | (refine below_alloc ?_ (by first | omega | (simp; done) | (simp; omega)) _) | (refine Below.setCell ?_ (by first | omega | (simp; done) | (simp; omega)) _) | exact Below.refl _ _ | assumption | (refine below_call ?_ (by first | omega | (simp; done) | (simp; omega)) (by assumption))))) (Nat.le_refl _))).mono ?_
  rw [H1.out]
  rintro e w1 ⟨rfl, hb⟩
  have BW := Lib.hid (Below.refl w.heap.size w)
  have kk := Lib.hid (below_call (B := w.heap.size) (a := w) (by with_reducible (repeat (first | (refine below_drewN ?_ _) | (refine Below.drew ?_) | (refine below_alloc ?_ (by first | omega | (simp; done) | (simp; omega)) _) | (refine Below.setCell ?_ (by first | omega | (simp; done) | (simp; omega)) _) | exact Below.refl _ _ | assumption | (refine below_call ?_ (by first | omega | (simp; done) | (simp; omega)) (by assumption))))) (Nat.le_refl _) hb)
  replace BW := Lib.hid (BW.out.trans (kk.out.mono BW.out.size))
  have L := Lib.hid (Box.call (b := w.heap.size) (c := #[.int .i64 o, .int .i64 s, .slice ua un uc]) (t := 41) hb (by with_reducible (repeat (first | (refine box_at _ _ _ ?_; first | rfl | (simp; done)) | apply Box.alloc | apply Box.drewN | apply Box.drew))))
  obtain ⟨L_0, L_1, L_2, L_3, L_4, L_5, L_6⟩ := box3 L.out
  clear hb kk
  go_wp2_with fail
  refine (iLsaValid o s _ es _ (HU.out.below BW.out (Nat.le_refl _))).mono ?_
  rw [H2.out]
  rintro e w2 ⟨rfl, hb⟩
  have kk := Lib.hid (below_call (B := w1.heap.size) (a := w1) (by with_reducible (repeat (first | (refine below_drewN ?_ _) | (refine Below.drew ?_) | (refine below_alloc ?_ (by first | omega | (simp; done) | (simp; omega)) _) | (refine Below.setCell ?_ (by first | omega | (simp; done) | (simp; omega)) _) | exact Below.refl _ _ | assumption | (refine below_call ?_ (by first | omega | (simp; done) | (simp; omega)) (by assumption))))) (Nat.le_refl _) hb)
  replace BW := Lib.hid (BW.out.trans (kk.out.mono BW.out.size))
  replace L := Lib.hid (L.out.below kk.out L.out.lt)
  clear L_0 L_1 L_2 L_3 L_4 L_5 L_6
  obtain ⟨L_0, L_1, L_2, L_3, L_4, L_5, L_6⟩ := box3 L.out
  clear hb kk
  go_wp2_with fail
  refine (put_any db o s es _ _ _ (HV.out.below BW.out (Nat.le_refl _)) (HU.out.below BW.out (Nat.le_refl _)) HS.out HSM.out (by have := HLE.out; omega)).mono ?_
  rintro e w3 ⟨r, us, rfl, hO, hb⟩
  have hs := BW.out.size
  have HO := Lib.hid hO
  have kk := Lib.hid (below_call (B := w2.heap.size) (a := w2) (by with_reducible (repeat (first | (refine below_drewN ?_ _) | (refine Below.drew ?_) | (refine below_alloc ?_ (by first | omega | (simp; done) | (simp; omega)) _) | (refine Below.setCell ?_ (by first | omega | (simp; done) | (simp; omega)) _) | exact Below.refl _ _ | assumption | (refine below_call ?_ (by first | omega | (simp; done) | (simp; omega)) (by assumption))))) (Nat.le_refl _) hb)
  replace BW := Lib.hid (BW.out.trans (kk.out.mono BW.out.size))
  clear hb kk hO
  go_wp2_with fail
  go_ret2
  rw [HP.out]
  exact ⟨r, us, rfl, HO.out.mono hs (Nat.le_refl _), BW.out⟩
end Go.Proofs.Ytnnkdoomjkccgaa
