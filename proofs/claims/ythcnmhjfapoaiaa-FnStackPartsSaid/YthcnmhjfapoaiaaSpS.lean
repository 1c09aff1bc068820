/- The shortest path over the smallest next hops: l2Path of the reference: shP. -/
import Derived.Test.YthcnmhjfapoaiaaHopsI
namespace Go.Proofs.Ythcnmhjfapoaiaa
set_option linter.unusedSimpArgs false
set_option linter.unusedVariables false
open Go.RowKit

/-- The path with its first node; none where the end is out of reach. -/
def shP (n : Int) (ls : List LinkD) (a b : Int) : List Int := if 0 ≤ distG n ls b a then a :: spG n ls a b else []
theorem sp_end {n : Int} {ls : List LinkD} {b : Int} (hn : 1 ≤ n) : spG n ls b b = [] := by
  unfold spG
  obtain ⟨k, hk⟩ : ∃ k, n.toNat = k + 1 := ⟨n.toNat - 1, by omega⟩
  rw [hk, sp, if_pos rfl]
theorem sp_step {n : Int} {ls : List LinkD} (h : GOk n ls) {x b : Int} (hx : nd n.toNat x) (hb : nd n.toNat b) (h0 : 0 ≤ distG n ls b x) (hne : x ≠ b) :
    ∃ m t, hopsG n ls x b = m :: t ∧ spG n ls x b = m :: spG n ls m b ∧ nd n.toNat m ∧ 0 ≤ distG n ls b m ∧ rk n.toNat (distG n ls b) m < rk n.toNat (distG n ls b) x := by
  obtain ⟨m0, hm0⟩ := hop_ex h.fits.ok h.dst hb hx h0 hne
  rcases hh : hopsL n.toNat (cstL ls) (distG n ls b) x with _ | ⟨m, t⟩
  · rw [hh] at hm0; cases hm0
  · have hm : m ∈ hopsL n.toNat (cstL ls) (distG n ls b) x := by rw [hh]; exact List.mem_cons_self
    obtain ⟨h1, h2, h3, h4⟩ := mem_hopsL.1 hm
    have hr := rk_hop hm
    have hrx := rk_lt_N (E := distG n ls b) hx
    refine ⟨m, t, hh, ?_, h1, h3, hr⟩
    unfold spG
    obtain ⟨k, hk⟩ : ∃ k, n.toNat = k + 1 := ⟨n.toNat - 1, by have := h.n1; omega⟩
    have e : sp n.toNat (cstL ls) (distG n ls b) b n.toNat x = m :: sp n.toNat (cstL ls) (distG n ls b) b k m := by
      conv => lhs; rw [hk]
      rw [sp, if_neg hne, ← hk, hh]
    rw [e]
    congr 1
    exact sp_fuel h.fits.ok h.dst hb k n.toNat m h1 h3 (by omega) (rk_le _ _ _)
theorem spG_len (n : Int) (ls : List LinkD) (a b : Int) : (spG n ls a b).length ≤ n.toNat := sp_len _ _ _ _ _ _
set_option maxRecDepth 100000 in
set_option maxHeartbeats 4000000 in
theorem sPath (n : Int) (ls : List LinkD) (a b : Int) (v : Value) (w : World) (hv : TriplesAt w v ls) (h : GOk n ls) (ha : nd n.toNat a) (hb : nd n.toNat b) :
    Calls Try.prog 83 #[.agg #[.int .i64 n, v], .int .i64 a, .int .i64 b] w (MadeInts w (shP n ls a b)) := by
  have HV := Lib.hid hv
  obtain ⟨va, vm, vcap, rfl⟩ := hv.form
  have hn1 := h.n1
  have hn8 := h.n8
  have HG := Lib.hid h; have HA := Lib.hid ha; have HB := Lib.hid hb
  obtain ⟨i0, hi, hz0, hz1, hz2⟩ := info_parts infoI
  have HI := Lib.hid hi; have HZ0 := Lib.hid hz0; have HZ1 := Lib.hid hz1; have HZ2 := Lib.hid hz2
  clear h ha hb hv hi hz0 hz1 hz2
  by_cases h0 : 0 ≤ distG n ls b a
  · have HP : Hid (shP n ls a b = a :: spG n ls a b) := Lib.hid (by unfold shP; rw [if_pos h0])
    have H0 := Lib.hid h0
    clear h0
    go_enter Try.func83, Try.ntmps83
    go_wp2_with fail
    have HR0 : Hid (((w.alloc (.cells #[.int .i64 n, .slice va vm vcap] 30)).alloc (.cells #[.int .i64 a] 3)).ownsRow (w.heap.size + 1) 3 1 (.slice (some ⟨w.heap.size + 1, 0, none⟩) 1 1) 1 (([a] : List Int).map (Value.int .i64))) := Lib.hid (own_lit1 (box_at _ _ _ (by simp)) (Nat.le_refl _))
    have HB0 : Hid (Below w.heap.size w ((w.alloc (.cells #[.int .i64 n, .slice va vm vcap] 30)).alloc (.cells #[.int .i64 a] 3))) := Lib.hid (by with_reducible (repeat (first | (refine below_drewN ?_ _) | (refine Below.drew ?_) | (refine below_alloc ?_ (by first | omega | (simp; done) | (simp; omega)) _) | (refine Below.setCell ?_ (by first | omega | (simp; done) | (simp; omega)) _) | exact Below.refl _ _ | assumption | (refine below_call ?_ (by first | omega | (simp; done) | (simp; omega)) (by assumption)))))
    have HG0 := Lib.hid ((box_new w #[.int .i64 n, .slice va vm vcap] 30).alloc (.cells #[.int .i64 a] 3))
    go_loopw [1, 7] (fun fv ov wr => ∃ (x : Int) (q : List Int) (g c : Nat), fv = .int .i64 x ∧ nd n.toNat x ∧ 0 ≤ distG n ls b x ∧ ov = .slice (some ⟨g, 0, none⟩) (q.length + 1) c ∧ wr.ownsRow (w.heap.size + 1) 3 1 ov (q.length + 1) ((a :: q).map (Value.int .i64)) ∧ spG n ls a b = q ++ spG n ls x b ∧ Below w.heap.size w wr ∧ Box wr w.heap.size #[.int .i64 n, .slice va vm vcap] 30) (fun fv _ _ => rk n.toNat (distG n ls b) (intOf fv))
    case atStart => exact ⟨a, [], w.heap.size + 1, 1, rfl, HA.out, H0.out, rfl, HR0.out, rfl, HB0.out, HG0.out⟩
    case round =>
      obtain ⟨x, q, g, c, rfl, hx, hx0, rfl, hR, hq, hBl, hG⟩ := hrel
      clear HR0 HB0 HG0
      have HX := Lib.hid hx; have HX0 := Lib.hid hx0; have HR := Lib.hid hR; have HQ := Lib.hid hq; have HBL := Lib.hid hBl; have HGX := Lib.hid hG
      have hql : q.length ≤ 8 := by
        have h1 := spG_len n ls a b
        rw [hq, List.length_append] at h1
        omega
      obtain ⟨G_0, G_1, G_2, G_3, G_4⟩ := box2 hG
      clear hx hx0 hR hq hBl hG
      by_cases hxb : x = b
      · subst hxb
        have t0 : (x != x) = false := by simp
        go_wp2_with fail
        go_ret
        rw [HP.out, HQ.out, sp_end hn1, List.append_nil]
        exact ⟨_, rfl, (OwnR.of HR.out).mono (by omega) (Nat.le_refl _), HBL.out⟩
      have t0 : (x != b) = true := by simpa using hxb
      obtain ⟨m, t, hh, hsp, hm, hm0, hrk⟩ := sp_step HG.out HX.out HB.out HX0.out hxb
      have HH := Lib.hid hh; have HSP := Lib.hid hsp; have HM := Lib.hid hm; have HM0 := Lib.hid hm0; have HRK := Lib.hid hrk
      clear hxb hh hsp hm hm0 hrk
      go_wp2_with fail
      refine (sHops n ls x b _ _ (HV.out.below HBL.out (Nat.le_refl _)) HG.out HX.out HB.out).mono ?_
      rintro e w2 ⟨v2, rfl, hO, hb⟩
      rw [HH.out] at hO
      obtain ⟨g2, c2, hgc, hlo2⟩ := own_pos hO.1 (by simp)
      subst hgc
      obtain ⟨r0, _⟩ := own_at (q := m :: t) (k := 0) hO.1 rfl
      have tl : ((((m :: t).length : Nat) : Int) == 0) = false := by simp only [List.length_cons, beq_eq_false_iff_ne]; omega
      have tl2 : (0:Int) < (((m :: t).length : Nat) : Int) := by simp only [List.length_cons]; omega
      obtain ⟨L, hL⟩ : ∃ L, (m :: t).length = L := ⟨_, rfl⟩
      rw [hL] at tl tl2 ⊢
      have HB2 := Lib.hid (HBL.out.trans (hb.mono HBL.out.size))
      have HR2 := Lib.hid (((OwnR.of HR.out).below hb (Nat.le_refl _)).1)
      have HG2 := Lib.hid (HGX.out.below hb HGX.out.lt)
      have hs3 := HB2.out.size
      have hws := HG2.out.lt
      clear hb HR HBL HGX hO hL G_0 G_1 G_2 G_3 G_4
      go_wp2_with (at_builtin; refine wpList_append_rd rfl _ _ _ rfl (w.heap.size + 1) 3 i0 _ 1 8 Try.underlying25 HI.out HZ0.out HZ1.out HZ2.out rfl (by omega) (.slice (some ⟨g, 0, none⟩) (q.length + 1) c) (q.length + 1) ((a :: q).map (Value.int .i64)) rfl (by with_reducible (repeat (first | exact HR2.out | apply own_drewN | apply own_drew | apply World.ownsRow.alloc | (refine own_setCell ?_ (by first | (simp; done) | omega | (simp; omega)) _)))) (some ⟨w2.heap.size, 0, none⟩) 1 1 [.int .i64 m] rfl (srcAt_one (box_new _ #[.int .i64 m] _) rfl) (one_ok _ _) (by unfold maxLen; omega) (by omega) (by simp; omega) ?_; intro v' w4 hown3 hgrow hloc)
      have hB3 : Below w.heap.size w w4 := Below.grown (by have := HB2.out; exact (by with_reducible (repeat (first | (refine below_drewN ?_ _) | (refine Below.drew ?_) | (refine below_alloc ?_ (by first | omega | (simp; done) | (simp; omega)) _) | (refine Below.setCell ?_ (by first | omega | (simp; done) | (simp; omega)) _) | exact Below.refl _ _ | assumption | (refine below_call ?_ (by first | omega | (simp; done) | (simp; omega)) (by assumption)))))) hgrow (by simp; omega) (fun j hj => by have := (HR2.out.lt j hj).1; omega)
      have hG3 := (HG2.out.alloc (.cells #[.int .i64 m] 3)).grown hgrow (fun j hj => by have := (HR2.out.lt j hj).1; omega)
      obtain ⟨g3, c3, rfl, hlo3⟩ := own_pos hown3 (by omega)
      have HB3 := Lib.hid hB3; have HR3 := Lib.hid hown3; have HG3 := Lib.hid hG3
      clear hB3 hgrow hown3 hloc hG3
      go_wp2_with fail
      go_roundw
      case rel =>
        refine ⟨m, q ++ [m], g3, c3, rfl, HM.out, HM0.out, ?_, ?_, ?_, HB3.out, HG3.out⟩
        · rw [List.length_append]; rfl
        · have := HR3.out
          rw [map_snoc] at this
          simpa using this
        · rw [HQ.out, HSP.out, List.append_assoc]; rfl
      case measure => exact HRK.out
  · have HP : Hid (shP n ls a b = []) := Lib.hid (by unfold shP; rw [if_neg h0])
    have hne : a ≠ b := by
      rintro rfl
      rw [HG.out.dst.self HG.out.fits.ok HA.out] at h0
      exact h0 (Int.le_refl _)
    have HN := Lib.hid (hops_none HG.out HA.out HB.out (.inr (by omega)))
    have t0 : (a != b) = true := by simpa using hne
    clear h0 hne
    go_enter Try.func83, Try.ntmps83
    go_wp2_with fail
    refine wp_loop_rounds 1 ?_
    rw [rounds_succ]
    go_wp2_with fail
    refine (sHops n ls a b _ _ (HV.out.below (by with_reducible (repeat (first | (refine below_drewN ?_ _) | (refine Below.drew ?_) | (refine below_alloc ?_ (by first | omega | (simp; done) | (simp; omega)) _) | (refine Below.setCell ?_ (by first | omega | (simp; done) | (simp; omega)) _) | exact Below.refl _ _ | assumption | (refine below_call ?_ (by first | omega | (simp; done) | (simp; omega)) (by assumption))))) (Nat.le_refl _)) HG.out HA.out HB.out).mono ?_
    rintro e w2 ⟨v2, rfl, hO, hb⟩
    rw [HN.out] at hO
    obtain ⟨oa, oc, rfl⟩ := own_slice hO.1
    have tl : ((((([] : List Int).length : Nat)) : Int) == 0) = true := by simp
    have BW := Lib.hid (below_call (B := w.heap.size) (a := w) (by with_reducible (repeat (first | (refine below_drewN ?_ _) | (refine Below.drew ?_) | (refine below_alloc ?_ (by first | omega | (simp; done) | (simp; omega)) _) | (refine Below.setCell ?_ (by first | omega | (simp; done) | (simp; omega)) _) | exact Below.refl _ _ | assumption | (refine below_call ?_ (by first | omega | (simp; done) | (simp; omega)) (by assumption))))) (Nat.le_refl _) hb)
    clear hb hO
    go_wp2_with fail
    go_ret
    rw [MadeInts, HP.out]
    have hs := BW.out.size
    have hB := BW.out
    exact ⟨_, rfl, OwnR.of (own_empty w2 w.heap.size 3 1 hs), (by with_reducible (repeat (first | (refine below_drewN ?_ _) | (refine Below.drew ?_) | (refine below_alloc ?_ (by first | omega | (simp; done) | (simp; omega)) _) | (refine Below.setCell ?_ (by first | omega | (simp; done) | (simp; omega)) _) | exact Below.refl _ _ | assumption | (refine below_call ?_ (by first | omega | (simp; done) | (simp; omega)) (by assumption)))))⟩
end Go.Proofs.Ythcnmhjfapoaiaa
