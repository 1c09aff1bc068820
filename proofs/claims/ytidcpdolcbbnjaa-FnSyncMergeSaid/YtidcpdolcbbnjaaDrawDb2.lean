/- Draws of two lists of announcements: DrawDbMerge, DrawDbMissing. -/
import Derived.Test.YtidcpdolcbbnjaaDrawDb
namespace Go.Proofs.Ytidcpdolcbbnjaa
open Go.RowKit

theorem cellsL_set1 : ∀ (db : List LsaD) (us : List Value) (i : Nat) (o s s' : Int) (es es' : List (Int × Int)), us.length = db.length → db[i]? = some (o, s, es) →
    cellsL (db.set i (o, s', es')) us = (cellsL db us).set (i * 3 + 1) (.int .i64 s')
  | [], _, _, _, _, _, _, _, _, h => by simp at h
  | _ :: _, [], _, _, _, _, _, _, h, _ => by simp at h
  | (o1, s1, es1) :: db, u :: us, 0, o, s, s', es, es', _, h => by simp at h; obtain ⟨rfl, rfl, rfl⟩ := h; rfl
  | (o1, s1, es1) :: db, u :: us, i + 1, o, s, s', es, es', h, hi => by
    have := cellsL_set1 db us i o s s' es es' (by simpa using h) (by simpa using hi)
    have e0 : (i + 1) * 3 = (i * 3) + 1 + 1 + 1 := by omega
    rw [e0]
    simpa [cellsL] using this
theorem EndsOwn.seq {w : World} {lo hi : Nat} {tE : TypeId} {db : List LsaD} {us : List Value} {i : Nat} {o s s' : Int} {es : List (Int × Int)} (h : EndsOwn w lo hi tE db us) (hd : db[i]? = some (o, s, es)) : EndsOwn w lo hi tE (db.set i (o, s', es)) us := by
  refine ⟨by simp [h.len], fun k o' s'' es' u hk hu => ?_, h.apart⟩
  by_cases hki : k = i
  · subst hki
    rw [List.getElem?_set_self (by have := (List.getElem?_eq_some_iff.1 hk).1; simpa using this)] at hk
    simp at hk
    obtain ⟨rfl, rfl, rfl⟩ := hk
    exact h.ends k o s es u hd hu
  · rw [List.getElem?_set_ne (fun e => hki e.symm)] at hk
    exact h.ends k o' s'' es' u hk hu
/-- One sequence number of a row of the call's own written over. -/
theorem RowLs.seq {w : World} {lo g n cap : Nat} {db : List LsaD} {us : List Value} {i : Nat} {o s s' : Int} {es : List (Int × Int)} (hn : n = db.length) (h : RowLs w lo (.slice (some ⟨g, 0, none⟩) n cap) db us) (hd : db[i]? = some (o, s, es)) : RowLs (w.setCell ⟨g, i * 3 + 1, none⟩ (.int .i64 s')) lo (.slice (some ⟨g, 0, none⟩) n cap) (db.set i (o, s', es)) us := by
  subst hn
  refine ⟨?_, ?_⟩
  · rw [List.length_set, cellsL_set1 db us i o s s' es es h.2.len hd]
    exact (h.1.stored (i * 3 + 1) (.int .i64 s')).1
  · refine (EndsOwn.seq (s' := s') (h.2.block (row := some g) (grown_setCell (only_refl _ _) _ _) fun g' e k u hu => ?_) hd).mono (Nat.le_refl _) (by simp)
    injection e with e
    subst e
    obtain ⟨⟨o', s', es'⟩, hd'⟩ := at_lt (l := db) (n := db.length) rfl (k := k) (by have := h.2.len; have := (List.getElem?_eq_some_iff.1 hu).1; omega)
    intro e
    exact own_own_ne (h.2.ends k o' s' es' u hd' hu).1 h.1 (by decide) _ e rfl
def SomeDbs (w : World) (e : Ending) (w' : World) : Prop := ∃ v u a b, e = .returned (.tuple #[v, u]) ∧ LsasAt w' v a ∧ LsasAt w' u b ∧ Below w.heap.size w w'
/-- What holds in the loop of DrawDbMerge. -/
def MergeLoop (w : World) (B lo l0 h0 : Nat) (va vb : Value) (a : List LsaD) (usa usb : List Value) (m : Nat) (k : Nat) (wr : World) : Prop :=
  ∃ db, RowLs wr lo vb db usb ∧ db.length = m ∧ OwnLs wr l0 h0 26 69 va a usa ∧ RdLe wr B (500 + 2 * k) ∧ Below w.heap.size w wr
theorem OwnLs.only {w w' : World} {lo hi B : Nat} {v : Value} {db : List LsaD} {us : List Value} (h : OwnLs w lo hi 26 69 v db us) (hg : w.grownBy w' (some B)) (hB : B < lo) : OwnLs w' lo hi 26 69 v db us :=
  h.btw (Btw.grown (lo := B) (hi := B + 1) hg (fun g e => by injection e with e; omega)) (.inr (by omega))
set_option maxRecDepth 100000 in
set_option maxHeartbeats 2000000 in
theorem drawDbMerge (v : Value) (w : World) (h : CodeAt w v) : Calls Try.prog 22 #[v] w (SomeDbs w) := by
  obtain ⟨B, hB⟩ : ∃ B, w.heap.size = B := ⟨_, rfl⟩
  obtain ⟨dS, dA, dD, dZ⟩ := drewN_out
  have HC := Lib.hid h
  have HB := Lib.hid hB
  go_enter Try.func22, Try.ntmps22
  go_wp2_with fail
  refine (open_any v _ B hB HC.out).mono ?_
  rintro e w1 ⟨rfl, hR1, hb1, hlt1⟩
  have B1 : Hid (Below w.heap.size w w1) := Lib.hid (by rw [HB.out]; exact hb1)
  have HR1 := Lib.hid hR1
  have hBw : w.heap.size ≤ B := by omega
  clear hb1 hB h hR1
  go_wp2_with fail
  refine (drawDb B 0 _ HR1.out (by omega)).mono ?_
  rintro e w2 ⟨va, a, usa, rfl, hO, hsm, hal, hR2, hG2⟩
  have HA := Lib.hid hO; have HSM := Lib.hid hsm
  have hR2' := rdLe_mono (m' := 400) hR2 (by omega)
  have B2 := Lib.hid (below_only B1.out (Nat.le_refl _) hBw hG2)
  have hs2 := hG2.size
  obtain ⟨aa, ac, rfl⟩ := own_slice hO.row.1
  clear hO hsm hG2 hR2
  go_wp2_with fail
  apply pick_op
  · (with_reducible (repeat (first | assumption | apply rdLe_alloc | apply rdLe_drewN | apply rdLe_drew | apply rdLe_set | (apply rdLe_setCell; rotate_left; (focus (first | omega | (simp; done) | (simp; omega)))))))
  · exact by omega
  intro z w3 z_0 z_1 w3_R w3_G
  have HA3 := Lib.hid (HA.out.only w3_G hlt1)
  have B3 := Lib.hid (below_only B2.out (Nat.le_refl _) hBw w3_G)
  have hs3 := w3_G.size
  clear w3_G hR2'
  rcases Bool.eq_false_or_eq_true (z == 0) with hz | hz
  · go_wp2_with fail
    refine (l11Copy_any a _ _ HA3.out.at_ HSM.out).mono ?_
    rintro e w4 ⟨vb, usb, rfl, hO4, hb4⟩
    have HA4 := Lib.hid (HA3.out.below hb4 (by omega))
    have B4 := Lib.hid (B3.out.trans (hb4.mono B3.out.size))
    have R4 := rdLe_below w3_R hb4
    have hs4 := hb4.size
    obtain ⟨m, hm⟩ : ∃ m, a.length = m := ⟨_, rfl⟩
    have hm18 : m ≤ 18 := by omega
    obtain ⟨ba, bc, hvb⟩ := own_slice hO4.row.1
    rw [hm] at hvb
    have HL : Hid (MergeLoop w B w3.heap.size w1.heap.size w2.heap.size (.slice aa a.length ac) vb a usa usb m 0 w4) := Lib.hid ⟨a, rowLs_of hO4, hm, HA4.out, rdLe_mono R4 (by omega), B4.out⟩
    subst hvb
    have HM := Lib.hid hm
    clear hb4 hO4 R4 hm
    go_wp2_with fail
    go_loopw [7] (fun i wr => ∃ k : Nat, k ≤ m ∧ i = .int .i64 k ∧ MergeLoop w B w3.heap.size w1.heap.size w2.heap.size (.slice aa a.length ac) (.slice ba m bc) a usa usb m k wr) (fun i _ => m - (intOf i).toNat)
    case atStart => exact ⟨0, Nat.zero_le _, rfl, HL.out⟩
    case round =>
      obtain ⟨k, hk, rfl, db, hR, hl, hA, hRd, hW⟩ := hrel
      clear HL
      have hBr := rdLe_lt hRd
      have HRR := Lib.hid hR; have HAA := Lib.hid hA; have HW := Lib.hid hW; have HLL := Lib.hid hl
      by_cases hkm : k < m
      · have hkI : (k : Int) < (m : Int) := by omega
        obtain ⟨⟨o, s, es⟩, hd⟩ := at_lt (l := db) (n := m) hl.symm hkm
        rcases hR.1.2 with ⟨h0, h1⟩ | ⟨g, cap, cur, h0, hg1, _⟩
        · simp at h0; omega
        obtain ⟨rfl, hmm, rfl⟩ := Value.slice.inj h0
        clear hmm
        have hul := hR.2.len
        obtain ⟨u, hu⟩ := at_lt (l := usb) (n := usb.length) rfl (k := k) (by omega)
        obtain ⟨_, c1, _⟩ := cellsL_at hd hu
        have HD := Lib.hid hd
        have HC1 := Lib.hid c1
        have hgB : g ≠ B := by omega
        have hgB2 : B ≠ g := by omega
        clear hR hA hW h0 hl hd hu c1 hul
        go_wp2_with fail
        apply pick_op
        · (with_reducible (repeat (first | assumption | apply rdLe_alloc | apply rdLe_drewN | apply rdLe_drew | apply rdLe_set | (apply rdLe_setCell; rotate_left; (focus (first | omega | (simp; done) | (simp; omega)))))))
        · exact by omega
        intro y w5 y_0 y_1 w5_R w5_G
        have HR5 := Lib.hid (HRR.out.keepOnly w5_G (by omega))
        have HA5 := Lib.hid (HAA.out.only w5_G (by omega))
        have HW5 := Lib.hid (below_only HW.out (Nat.le_refl _) hBw w5_G)
        clear w5_G hRd
        rcases Bool.eq_false_or_eq_true (y == 0) with hy | hy
        rotate_left
        · go_wp2_with fail
          go_roundw
          case rel =>
            exact ⟨k + 1, by omega, by go_num, db, HR5.out, HLL.out, HA5.out, rdLe_mono w5_R (by omega), HW5.out⟩
          case measure => simp [intOf]; omega
        · have q1 := (World.ownsRow.cellAt (by have := HR5.out.1; rw [HLL.out] at this; exact this) (k * 3 + 1) (by omega)).trans HC1.out
          have f1 := World.ownsRow.frozenAt (by have := HR5.out.1; rw [HLL.out] at this; exact this) (k * 3 + 1)
          have hBw5 := rdLe_lt w5_R
          have hgw5 : g < w5.heap.size := cell_lt q1
          go_wp2_with fail
          go_region_with (go_at_call 42; apply pick_step; (focus (with_reducible (repeat (first | assumption | apply rdLe_alloc | apply rdLe_drewN | apply rdLe_drew | apply rdLe_set | (apply rdLe_setCell; rotate_left; (focus (first | omega | (simp; done) | (simp; omega)))))))); (focus (exact by omega)); intro v p q hv0 hv1 hp0 hp1)
          all_goals
            go_wp2_with fail
            go_roundw
            case rel =>
              refine ⟨k + 1, by omega, by go_num, db.set k (o, _, es), (RowLs.seq HLL.out.symm ?_ HD.out).drewN _, by rw [List.length_set]; exact HLL.out, ?_, ?_, ?_⟩
              · exact HR5.out.keepOnly (only_setCell (only_refl _ (some B)) (.inl rfl) _) (by omega)
              · refine (OwnLs.btw (HA5.out.only (only_setCell (only_refl _ (some B)) (.inl rfl) _) hlt1) (Btw.grown (lo := g) (hi := g + 1) (grown_setCell (only_refl _ _) _ _) (fun g' e => by injection e with e; omega)) (.inl (by omega))).drewN _
              · (apply rdLe_mono; (focus (with_reducible (repeat (first | assumption | apply rdLe_alloc | apply rdLe_drewN | apply rdLe_drew | apply rdLe_set | (apply rdLe_setCell; rotate_left; (focus (first | omega | (simp; done) | (simp; omega)))))))); (exact by omega))
              · have hW := HW5.out
                exact (by with_reducible (repeat (first | (refine below_drewN ?_ _) | (refine Below.drew ?_) | (refine below_alloc ?_ (by first | omega | (simp; done) | (simp; omega)) _) | (refine Below.setCell ?_ (by first | omega | (simp; done) | (simp; omega)) _) | exact Below.refl _ _ | assumption | (refine below_call ?_ (by first | omega | (simp; done) | (simp; omega)) (by assumption)))))
            case measure => simp [intOf]; omega
      · obtain rfl : k = m := by omega
        go_wp2_with fail
        go_ret2
        exact ⟨_, _, a, db, rfl, HAA.out.at_, HRR.out.own.at_, HW.out⟩
  · go_wp2_with fail
    refine (drawDb B 401 _ (rdLe_mono w3_R (by omega)) (by omega)).mono ?_
    rintro e w4 ⟨vb, b, usb, rfl, hO4, _, _, _, hG4⟩
    have HA4 := Lib.hid (HA3.out.only hG4 hlt1)
    have B4 := Lib.hid (below_only B3.out (Nat.le_refl _) hBw hG4)
    have HO4 := Lib.hid hO4
    obtain ⟨ba, bc, rfl⟩ := own_slice hO4.row.1
    clear hO4 hG4
    go_wp2_with fail
    go_ret2
    exact ⟨_, _, a, b, rfl, HA4.out.at_, HO4.out.at_, B4.out⟩
end Go.Proofs.Ytidcpdolcbbnjaa
