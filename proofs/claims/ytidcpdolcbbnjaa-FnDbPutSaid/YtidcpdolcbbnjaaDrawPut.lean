/- The draw of a list of announcements and an announcement: DrawDbPut. -/
import Derived.Test.YtidcpdolcbbnjaaDrawDb2
namespace Go.Proofs.Ytidcpdolcbbnjaa
open Go.RowKit

theorem OwnLs.low' {w : World} {lo hi : Nat} {v : Value} {db : List LsaD} {us : List Value} (h : OwnLs w lo hi 26 69 v db us) {p : Addr} (hp : p.block < lo) (u : Value) : OwnLs (w.setCell p u) lo hi 26 69 v db us :=
  ⟨h.row.set hp u, h.own.set hp u⟩
def SomePut (w : World) (e : Ending) (w' : World) : Prop := ∃ (v u : Value) (db : List LsaD) (o s : Int) (es : List (Int × Int)), e = .returned (.tuple #[v, .agg #[.int .i64 o, .int .i64 s, u]]) ∧ LsasAt w' v db ∧ PairsAt w' u es ∧ Below w.heap.size w w'
set_option maxRecDepth 100000 in
set_option maxHeartbeats 2000000 in
theorem drawDbPut (v : Value) (w : World) (h : CodeAt w v) : Calls Try.prog 14 #[v] w (SomePut w) := by
  obtain ⟨B, hB⟩ : ∃ B, w.heap.size + 1 = B := ⟨_, rfl⟩
  obtain ⟨dS, dA, dD, dZ⟩ := drewN_out
  have HC := Lib.hid (codeAt_alloc h (.cells #[.int .i64 0, .int .i64 0, .slice none 0 0] 26))
  have HB := Lib.hid hB
  have hB' : (w.alloc (.cells #[.int .i64 0, .int .i64 0, .slice none 0 0] 26)).heap.size = B := by simpa using hB
  have HB2 := Lib.hid hB'
  have hwB : w.heap.size < B := by omega
  clear hB hB' h
  go_enter Try.func14, Try.ntmps14
  go_wp2_with fail
  refine (open_any v _ B HB2.out HC.out).mono ?_
  rintro e w1 ⟨rfl, hR1, hb1, hlt1⟩
  have R := Lib.hid ((box_new w #[.int .i64 0, .int .i64 0, .slice none 0 0] 26).below hb1 (by have := HB.out; omega))
  have B1 : Hid (Below w.heap.size w w1) := Lib.hid ((Below.alloc (Below.refl _ _) (Nat.le_refl _) _).trans (hb1.mono (by omega)))
  have HR1 := Lib.hid hR1
  clear hb1 hR1
  go_wp2_with fail
  refine (drawDb B 0 _ HR1.out (by omega)).mono ?_
  rintro e w2 ⟨vx, x, usx, rfl, hO, hsm, hxl, hRd, hG⟩
  have hs2 := hG.size
  have hBl := rdLe_lt HR1.out
  have R2 := Lib.hid (R.out.only hG (by omega))
  have B2 := Lib.hid (below_only B1.out (Nat.le_refl _) (by omega) hG)
  have HO := Lib.hid hO; have HSM := Lib.hid hsm
  have HRd : Hid (RdLe w2 B 420) := Lib.hid (rdLe_mono hRd (by omega))
  obtain ⟨xa, xc, rfl⟩ := own_slice hO.row.1
  obtain ⟨n, hn⟩ : ∃ n, n = x.length := ⟨_, rfl⟩
  have HOS := hO
  rw [← hn] at HOS hxl ⊢
  have HOx := Lib.hid HOS
  have HN := Lib.hid hn
  clear hO hsm hRd hG HOS hn HO
  have hRd := HRd.out
  rcases Nat.eq_zero_or_pos n with h0 | h0
  · subst h0
    have hd : decide ((0:Int) < ((0:Nat):Int)) = false := by simp
    obtain ⟨R_0, R_1, R_2, R_3, R_4, R_5, R_6⟩ := box3 R2.out
    go_wp2_with fail
    refine (drawLsa B 420 _ HRd.out (by omega)).mono ?_
    rintro e w9 ⟨o, s, u, es, rfl, hel, hO9, hR9, hG9⟩
    have hs9 := hG9.size
    have R9 := Lib.hid (R2.out.only hG9 (by omega))
    have B9 := Lib.hid (below_only B2.out (Nat.le_refl _) (by omega) hG9)
    have X9 := Lib.hid (HOx.out.only hG9 (by omega))
    have HU9 := Lib.hid (show OwnR w9 w2.heap.size w9.heap.size 69 2 u es.length (cells2 es) from hO9)
    obtain ⟨ua, uc, rfl⟩ := own_slice hO9.1
    obtain ⟨Q_0, Q_1, Q_2, Q_3, Q_4, Q_5, Q_6⟩ := box3 R9.out
    clear hO9 hR9 hG9
    go_wp2_with fail
    apply bodyPost_ret
    · simp [results, Try.results14, go_sem, Q_0, Q_1, Q_2, Q_3, Q_4, Q_5]
      rfl
    · rfl
    · refine ⟨_, _, x, o, s, es, rfl, ?_, ?_, ?_⟩
      · have h1 := X9.out
        refine OwnLs.at_ (tL := 26) (tE := 69) (lo := w1.heap.size) (hi := w2.heap.size) (us := usx) ?_
        with_reducible (repeat (first | exact h1 | (refine OwnLs.low' ?_ (by first | (simp; done) | (simp; omega)) _) | apply OwnLs.drewN))
      · have h1 := HU9.out
        refine own_pairs (lo := w2.heap.size) (hi := w9.heap.size) (t := 69) ?_
        with_reducible (repeat (first | exact h1 | (refine OwnR.set ?_ (by first | (simp; done) | (simp; omega)) _) | apply OwnR.drewN))
      · have hB := B9.out
        exact (by with_reducible (repeat (first | (refine below_drewN ?_ _) | (refine Below.drew ?_) | (refine below_alloc ?_ (by first | omega | (simp; done) | (simp; omega)) _) | (refine Below.setCell ?_ (by first | omega | (simp; done) | (simp; omega)) _) | exact Below.refl _ _ | assumption | (refine below_call ?_ (by first | omega | (simp; done) | (simp; omega)) (by assumption)))))
  · have hd : decide ((0:Int) < (n:Int)) = true := by simp; omega
    go_wp2_with fail
    apply pick_op
    · (with_reducible (repeat (first | assumption | apply rdLe_alloc | apply rdLe_drewN | apply rdLe_drew | apply rdLe_set | (apply rdLe_setCell; rotate_left; (focus (first | omega | (simp; done) | (simp; omega)))))))
    · exact by omega
    intro z w3 z_0 z_1 w3_R w3_G
    have R3 := Lib.hid (R2.out.only w3_G (by omega))
    have B3 := Lib.hid (below_only B2.out (Nat.le_refl _) (by omega) w3_G)
    have HO3 := Lib.hid (HOx.out.only w3_G (by omega))
    have hs3 := w3_G.size
    have HRd3 := Lib.hid w3_R
    obtain ⟨R_0, R_1, R_2, R_3, R_4, R_5, R_6⟩ := box3 R3.out
    clear w3_G hRd w3_R
    rcases Bool.eq_false_or_eq_true (z == 0) with hz | hz
    · go_wp2_with fail
      have hRd3 := HRd3.out
      apply pick_op
      · (with_reducible (repeat (first | assumption | apply rdLe_alloc | apply rdLe_drewN | apply rdLe_drew | apply rdLe_set | (apply rdLe_setCell; rotate_left; (focus (first | omega | (simp; done) | (simp; omega)))))))
      · exact by omega
      intro y w4 y_0 y_1 w4_R w4_G
      have hyn : y < (n:Int) := by omega
      obtain ⟨k, rfl⟩ : ∃ k : Nat, y = (k:Int) := ⟨y.toNat, by omega⟩
      have hkn : k < n := by omega
      have R4 := Lib.hid (R3.out.only w4_G (by omega))
      have B4 := Lib.hid (below_only B3.out (Nat.le_refl _) (by omega) w4_G)
      have HO4 := Lib.hid (HO3.out.only w4_G (by omega))
      have hs4 := w4_G.size
      have hat := HO4.out
      rw [HN.out] at hat
      have hat := hat.at_
      obtain ⟨a, cap, b, off, hv, hcap, hmax, ha, hc⟩ := hat
      obtain ⟨rfl, _, rfl⟩ := Value.slice.inj hv
      have ha := ha (by have := HN.out; omega)
      subst ha
      obtain ⟨⟨o, s, es⟩, hd⟩ := at_lt HN.out hkn
      obtain ⟨u, c0, c1, c2, hu⟩ := hc k o s es hd
      obtain ⟨ua, un, uc, rfl⟩ := hu.form
      have HU := Lib.hid hu
      have hel := HSM.out.2 k _ hd
      clear w4_G w4_R hRd3 hc hv hu hd
      go_wp2_with fail
      refine (l11One_any o s es _ _ HU.out hel).mono ?_
      rintro e w9 ⟨u9, rfl, hO9, hb9⟩
      have hs9 := hb9.size
      have R9 := Lib.hid (R4.out.below hb9 R4.out.lt)
      have B9 := Lib.hid (B4.out.trans (hb9.mono B4.out.size))
      have X9 := Lib.hid (HO4.out.below hb9 (by omega))
      have HU9 := Lib.hid (show OwnR w9 w4.heap.size w9.heap.size 69 2 u9 es.length (cells2 es) from hO9)
      obtain ⟨xa9, xc9, rfl⟩ := own_slice hO9.1
      obtain ⟨Q_0, Q_1, Q_2, Q_3, Q_4, Q_5, Q_6⟩ := box3 R9.out
      clear hO9 hb9
      go_wp2_with fail
      apply bodyPost_ret
      · simp [results, Try.results14, go_sem, Q_0, Q_1, Q_2, Q_3, Q_4, Q_5]
        rfl
      · rfl
      · refine ⟨_, _, x, o, s, es, rfl, ?_, ?_, ?_⟩
        · have h1 := X9.out
          refine OwnLs.at_ (tL := 26) (tE := 69) (lo := w1.heap.size) (hi := w2.heap.size) (us := usx) ?_
          with_reducible (repeat (first | exact h1 | (refine OwnLs.low' ?_ (by first | (simp; done) | (simp; omega)) _) | apply OwnLs.drewN))
        · have h1 := HU9.out
          refine own_pairs (lo := w4.heap.size) (hi := w9.heap.size) (t := 69) ?_
          with_reducible (repeat (first | exact h1 | (refine OwnR.set ?_ (by first | (simp; done) | (simp; omega)) _) | apply OwnR.drewN))
        · have hB := B9.out
          exact (by with_reducible (repeat (first | (refine below_drewN ?_ _) | (refine Below.drew ?_) | (refine below_alloc ?_ (by first | omega | (simp; done) | (simp; omega)) _) | (refine Below.setCell ?_ (by first | omega | (simp; done) | (simp; omega)) _) | exact Below.refl _ _ | assumption | (refine below_call ?_ (by first | omega | (simp; done) | (simp; omega)) (by assumption)))))
    · go_wp2_with fail
      refine (drawLsa B _ _ HRd3.out (by omega)).mono ?_
      rintro e w9 ⟨o, s, u, es, rfl, hel, hO9, hR9, hG9⟩
      have hs9 := hG9.size
      have R9 := Lib.hid (R3.out.only hG9 (by omega))
      have B9 := Lib.hid (below_only B3.out (Nat.le_refl _) (by omega) hG9)
      have X9 := Lib.hid (HO3.out.only hG9 (by omega))
      have HU9 := Lib.hid (show OwnR w9 w3.heap.size w9.heap.size 69 2 u es.length (cells2 es) from hO9)
      obtain ⟨ua, uc, rfl⟩ := own_slice hO9.1
      obtain ⟨Q_0, Q_1, Q_2, Q_3, Q_4, Q_5, Q_6⟩ := box3 R9.out
      clear hO9 hR9 hG9
      go_wp2_with fail
      apply bodyPost_ret
      · simp [results, Try.results14, go_sem, Q_0, Q_1, Q_2, Q_3, Q_4, Q_5]
        rfl
      · rfl
      · refine ⟨_, _, x, o, s, es, rfl, ?_, ?_, ?_⟩
        · have h1 := X9.out
          refine OwnLs.at_ (tL := 26) (tE := 69) (lo := w1.heap.size) (hi := w2.heap.size) (us := usx) ?_
          with_reducible (repeat (first | exact h1 | (refine OwnLs.low' ?_ (by first | (simp; done) | (simp; omega)) _) | apply OwnLs.drewN))
        · have h1 := HU9.out
          refine own_pairs (lo := w3.heap.size) (hi := w9.heap.size) (t := 69) ?_
          with_reducible (repeat (first | exact h1 | (refine OwnR.set ?_ (by first | (simp; done) | (simp; omega)) _) | apply OwnR.drewN))
        · have hB := B9.out
          exact (by with_reducible (repeat (first | (refine below_drewN ?_ _) | (refine Below.drew ?_) | (refine below_alloc ?_ (by first | omega | (simp; done) | (simp; omega)) _) | (refine Below.setCell ?_ (by first | omega | (simp; done) | (simp; omega)) _) | exact Below.refl _ _ | assumption | (refine below_call ?_ (by first | omega | (simp; done) | (simp; omega)) (by assumption)))))
end Go.Proofs.Ytidcpdolcbbnjaa
