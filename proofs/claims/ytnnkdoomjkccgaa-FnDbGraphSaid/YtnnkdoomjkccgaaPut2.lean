/- DbPut of the reference. -/
import Derived.Test.YtnnkdoomjkccgaaPut
namespace Go.Proofs.Ytnnkdoomjkccgaa
set_option linter.unusedSimpArgs false
set_option linter.unusedVariables false
open Go.RowKit

/-- Lists that a machine draws. -/
def TinyDb (db : List LsaD) : Prop := db.length ≤ 17 ∧ ∀ (k : Nat) (d : LsaD), db[k]? = some d → d.2.2.length ≤ 8
theorem tiny_of_ok {db : List LsaD} (h : dbOk db = true) : db.length ≤ 8 ∧ ∀ (k : Nat) (d : LsaD), db[k]? = some d → d.2.2.length ≤ 8 :=
  ⟨dbOk_len h, fun k d hd => lsaOk_len ((dbOk_iff.1 h).1 k d hd)⟩
theorem TinyDb.small {db : List LsaD} (h : TinyDb db) : SmallDb db := ⟨by have := h.1; omega, fun k d hd => by have := h.2 k d hd; omega⟩
theorem mem_insD {db : List LsaD} {l d : LsaD} {k : Nat} (h : (insD db l)[k]? = some d) : d = l ∨ d ∈ db := by
  have hm := List.mem_of_getElem? h
  unfold insD at hm
  simp only [List.mem_append, List.mem_cons, List.mem_filter] at hm
  rcases hm with hm | hm | hm
  · exact .inr hm.1
  · exact .inl hm
  · exact .inr hm.1
theorem putOf_tiny {db : List LsaD} {l : LsaD} (h : (putOf db l).2 = 0) : TinyDb (putOf db l).1 := by
  rcases Bool.eq_false_or_eq_true (dbOk db && lsaOk l.1 l.2.1 l.2.2) with hk | hk
  rotate_left
  · rw [putOf_bad hk] at h; simp at h
  simp only [Bool.and_eq_true] at hk
  obtain ⟨h1, h2⟩ := hk
  rw [putOf_ok h1 h2] at h ⊢
  obtain ⟨a1, a2⟩ := tiny_of_ok h1
  have hins : TinyDb (insD db l) := by
    refine ⟨?_, fun k d hd => ?_⟩
    · unfold insD
      rw [List.length_append, List.length_cons]
      have b1 := List.length_filter_le (fun d : LsaD => decide (d.1 < l.1)) db
      have b2 := List.length_filter_le (fun d : LsaD => decide (l.1 < d.1)) db
      omega
    · rcases mem_insD hd with rfl | hm
      · exact lsaOk_len h2
      · obtain ⟨i, hi⟩ := List.getElem?_of_mem hm
        exact a2 i d hi
  unfold putD at h ⊢
  split at h
  · split at h
    · simp at h
    · split at h
      · simp at h
      · rename_i q1 q2
        rename_i hh
        simp only [q1, q2, if_false]
        exact hins
  · exact hins
set_option maxHeartbeats 1000000 in
theorem sDbPut (db : List LsaD) (o s : Int) (es : List (Int × Int)) (v u : Value) (w : World) (hv : LsasAt w v db) (hu : PairsAt w u es) :
    Calls Try.prog 73 #[v, .agg #[.int .i64 o, .int .i64 s, u]] w (MadePut w (putOf db (o, s, es))) := by
  have HV := Lib.hid hv; have HU := Lib.hid hu
  obtain ⟨va, vn, vc, rfl⟩ := hv.form
  obtain ⟨ua, un, uc, rfl⟩ := hu.form
  clear hv hu
  have hr0 := fun W : World => rowLs_new (w := W) (g := W.heap.size) (lo := w.heap.size) rfl
  have HR0 := Lib.hid hr0
  clear hr0
  rcases Bool.eq_false_or_eq_true (dbOk db) with h1 | h1
  rotate_left
  · have hp := putOf_bad (db := db) (l := (o, s, es)) (by rw [h1]; rfl)
    have HP := Lib.hid hp; have H1 := Lib.hid h1
    clear hp h1
    go_enter Try.func73, Try.ntmps73
    go_wp2_with fail
    refine (sDbValid db _ _ (HV.out.below (by with_reducible (repeat (first | (refine below_drewN ?_ _) | (refine Below.drew ?_) | (refine below_alloc ?_ (by first | omega | (simp; done) | (simp; omega)) _) | (refine Below.setCell ?_ (by first | omega | (simp; done) | (simp; omega)) _) | exact Below.refl _ _ | assumption | (refine below_call ?_ (by first | omega | (simp; done) | (simp; omega)) (by assumption))))) (Nat.le_refl _))).mono ?_
    rw [H1.out]
    rintro e w1 ⟨rfl, hb⟩
    have hB := below_call (B := w.heap.size) (a := w) (by with_reducible (repeat (first | (refine below_drewN ?_ _) | (refine Below.drew ?_) | (refine below_alloc ?_ (by first | omega | (simp; done) | (simp; omega)) _) | (refine Below.setCell ?_ (by first | omega | (simp; done) | (simp; omega)) _) | exact Below.refl _ _ | assumption | (refine below_call ?_ (by first | omega | (simp; done) | (simp; omega)) (by assumption))))) (Nat.le_refl _) hb
    go_wp2_with fail
    go_ret2
    rw [HP.out]
    have hs := hB.size
    exact ⟨_, [], rfl, (HR0.out w1 hs).own, hB.alloc hs _⟩
  rcases Bool.eq_false_or_eq_true (lsaOk o s es) with h2 | h2
  rotate_left
  · have hp := putOf_bad (db := db) (l := (o, s, es)) (by simp only [h2]; simp)
    have HP := Lib.hid hp; have H1 := Lib.hid h1; have H2 := Lib.hid h2
    clear hp h1 h2
    go_enter Try.func73, Try.ntmps73
    go_wp2_with fail
    refine (sDbValid db _ _ (HV.out.below (by with_reducible (repeat (first | (refine below_drewN ?_ _) | (refine Below.drew ?_) | (refine below_alloc ?_ (by first | omega | (simp; done) | (simp; omega)) _) | (refine Below.setCell ?_ (by first | omega | (simp; done) | (simp; omega)) _) | exact Below.refl _ _ | assumption | (refine below_call ?_ (by first | omega | (simp; done) | (simp; omega)) (by assumption))))) (Nat.le_refl _))).mono ?_
    rw [H1.out]
    rintro e w1 ⟨rfl, hb⟩
    have BW := Lib.hid (Below.refl w.heap.size w)
    have kk := Lib.hid (below_call (B := w.heap.size) (a := w) (by with_reducible (repeat (first | (refine below_drewN ?_ _) | (refine Below.drew ?_) | (refine below_alloc ?_ (by first | omega | (simp; done) | (simp; omega)) _) | (refine Below.setCell ?_ (by first | omega | (simp; done) | (simp; omega)) _) | exact Below.refl _ _ | assumption | (refine below_call ?_ (by first | omega | (simp; done) | (simp; omega)) (by assumption))))) (Nat.le_refl _) hb)
    replace BW := Lib.hid (BW.out.trans (kk.out.mono BW.out.size))
    have L := Lib.hid (Box.call (b := w.heap.size) (c := #[.int .i64 o, .int .i64 s, .slice ua un uc]) (t := 41) hb (by with_reducible (repeat (first | (refine box_at _ _ _ ?_; first | rfl | (simp; done)) | apply Box.alloc | apply Box.drewN | apply Box.drew))))
    obtain ⟨L_0, L_1, L_2, L_3, L_4, L_5, L_6⟩ := box3 L.out
    clear hb kk
    go_wp2_with fail
    refine (sLsaValid o s _ es _ (HU.out.below BW.out (Nat.le_refl _))).mono ?_
    rw [H2.out]
    rintro e w2 ⟨rfl, hb⟩
    have kk := Lib.hid (below_call (B := w1.heap.size) (a := w1) (by with_reducible (repeat (first | (refine below_drewN ?_ _) | (refine Below.drew ?_) | (refine below_alloc ?_ (by first | omega | (simp; done) | (simp; omega)) _) | (refine Below.setCell ?_ (by first | omega | (simp; done) | (simp; omega)) _) | exact Below.refl _ _ | assumption | (refine below_call ?_ (by first | omega | (simp; done) | (simp; omega)) (by assumption))))) (Nat.le_refl _) hb)
    replace BW := Lib.hid (BW.out.trans (kk.out.mono BW.out.size))
    clear hb kk
    have hB := BW.out
    have hs := hB.size
    go_wp2_with fail
    go_ret2
    rw [HP.out]
    exact ⟨_, [], rfl, (HR0.out w2 hs).own, hB.alloc hs _⟩
  have hp := putOf_ok (db := db) (l := (o, s, es)) h1 h2
  obtain ⟨t1, t2⟩ := tiny_of_ok h1
  have hs := (dbOk_iff.1 h1).2
  have hle := lsaOk_len h2
  have HP := Lib.hid hp; have H1 := Lib.hid h1; have H2 := Lib.hid h2; have HS := Lib.hid hs; have HLE := Lib.hid hle
  have HSM : Hid (SmallDb db) := Lib.hid ⟨by omega, fun k d hd => by have := t2 k d hd; omega⟩
  clear hp h1 h2 t1 t2 hs hle
  go_enter Try.func73, Try.ntmps73
  go_wp2_with fail
  refine (sDbValid db _ _ (HV.out.below (by with_reducible (repeat (first | (refine below_drewN ?_ _) | (refine Below.drew ?_) | (refine below_alloc ?_ (by first | omega | (simp; done) | (simp; omega)) _) | (refine Below.setCell ?_ (by first | omega | (simp; done) | (simp; omega)) _) | exact Below.refl _ _ | assumption | (refine below_call ?_ (by first | omega | (simp; done) | (simp; omega)) (by assumption))))) (Nat.le_refl _))).mono ?_
  rw [H1.out]
  rintro e w1 ⟨rfl, hb⟩
  have BW := Lib.hid (Below.refl w.heap.size w)
  have kk := Lib.hid (below_call (B := w.heap.size) (a := w) (by with_reducible (repeat (first | (refine below_drewN ?_ _) | (refine Below.drew ?_) | (refine below_alloc ?_ (by first | omega | (simp; done) | (simp; omega)) _) | (refine Below.setCell ?_ (by first | omega | (simp; done) | (simp; omega)) _) | exact Below.refl _ _ | assumption | (refine below_call ?_ (by first | omega | (simp; done) | (simp; omega)) (by assumption))))) (Nat.le_refl _) hb)
  replace BW := Lib.hid (BW.out.trans (kk.out.mono BW.out.size))
  have L := Lib.hid (Box.call (b := w.heap.size) (c := #[.int .i64 o, .int .i64 s, .slice ua un uc]) (t := 41) hb (by with_reducible (repeat (first | (refine box_at _ _ _ ?_; first | rfl | (simp; done)) | apply Box.alloc | apply Box.drewN | apply Box.drew))))
  obtain ⟨L_0, L_1, L_2, L_3, L_4, L_5, L_6⟩ := box3 L.out
  clear hb kk
  go_wp2_with fail
  refine (sLsaValid o s _ es _ (HU.out.below BW.out (Nat.le_refl _))).mono ?_
  rw [H2.out]
  rintro e w2 ⟨rfl, hb⟩
  have kk := Lib.hid (below_call (B := w1.heap.size) (a := w1) (by with_reducible (repeat (first | (refine below_drewN ?_ _) | (refine Below.drew ?_) | (refine below_alloc ?_ (by first | omega | (simp; done) | (simp; omega)) _) | (refine Below.setCell ?_ (by first | omega | (simp; done) | (simp; omega)) _) | exact Below.refl _ _ | assumption | (refine below_call ?_ (by first | omega | (simp; done) | (simp; omega)) (by assumption))))) (Nat.le_refl _) hb)
  replace BW := Lib.hid (BW.out.trans (kk.out.mono BW.out.size))
  replace L := Lib.hid (L.out.below kk.out L.out.lt)
  clear L_0 L_1 L_2 L_3 L_4 L_5 L_6
  obtain ⟨L_0, L_1, L_2, L_3, L_4, L_5, L_6⟩ := box3 L.out
  clear hb kk
  go_wp2_with fail
  refine (l11Put_any db o s es _ _ _ (HV.out.below BW.out (Nat.le_refl _)) (HU.out.below BW.out (Nat.le_refl _)) HS.out HSM.out (by have := HLE.out; omega)).mono ?_
  rintro e w3 ⟨r, us, rfl, hO, hb⟩
  have hs := BW.out.size
  have HO := Lib.hid hO
  have kk := Lib.hid (below_call (B := w2.heap.size) (a := w2) (by with_reducible (repeat (first | (refine below_drewN ?_ _) | (refine Below.drew ?_) | (refine below_alloc ?_ (by first | omega | (simp; done) | (simp; omega)) _) | (refine Below.setCell ?_ (by first | omega | (simp; done) | (simp; omega)) _) | exact Below.refl _ _ | assumption | (refine below_call ?_ (by first | omega | (simp; done) | (simp; omega)) (by assumption))))) (Nat.le_refl _) hb)
  replace BW := Lib.hid (BW.out.trans (kk.out.mono BW.out.size))
  clear hb kk hO
  go_wp2_with fail
  go_ret2
  rw [HP.out]
  exact ⟨r, us, rfl, HO.out.mono hs (Nat.le_refl _), BW.out⟩
end Go.Proofs.Ytnnkdoomjkccgaa
