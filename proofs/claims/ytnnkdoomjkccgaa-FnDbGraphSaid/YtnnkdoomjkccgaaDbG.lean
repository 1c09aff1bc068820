/- DbGraph of the program and of the reference: dgO, its links in new memory. -/
import Derived.Test.YtnnkdoomjkccgaaAnn
import Derived.Test.YtnnkdoomjkccgaaDb
import Derived.Test.YtnnkdoomjkccgaaGG
import Derived.Test.YtnnkdoomjkccgaaGValidS
namespace Go.Proofs.Ytnnkdoomjkccgaa
set_option linter.unusedSimpArgs false
set_option linter.unusedVariables false
open Go.RowKit

/-- What DbGraph leaves behind. -/
def DgPost (w : World) (n : Int) (db : List LsaD) (e : Ending) (w' : World) : Prop :=
  ∃ u, e = .returned (.tuple #[.agg #[.int .i64 (dgO n db).1.1, u], .bool (dgO n db).2]) ∧ OwnR w' w.heap.size w'.heap.size 46 3 u (dgO n db).1.2.length (cells3 (dgO n db).1.2) ∧ Below w.heap.size w w'
theorem DgPost.no {w w' : World} {n : Int} {db : List LsaD} (h : (inB n 1 8 && dbOk db && decide ((dgL db n).length ≤ 14)) = false) (hb : Below w.heap.size w w') : DgPost w n db (.returned (.tuple #[.agg #[.int .i64 0, .slice none 0 0], .bool false])) w' := by
  rw [DgPost, dgO_no h]
  exact ⟨_, rfl, OwnR.of ⟨rfl, .inl ⟨rfl, rfl⟩⟩, hb⟩
theorem DgPost.yes {w w' : World} {n : Int} {db : List LsaD} {O : List LinkD} {u : Value} (hO : dgL db n = O) (h : dbOk db = true) (h1 : 1 ≤ n) (h8 : n ≤ 8) (hl : O.length ≤ 14) (ho : OwnR w' w.heap.size w'.heap.size 46 3 u O.length (cells3 O)) (hb : Below w.heap.size w w') : DgPost w n db (.returned (.tuple #[.agg #[.int .i64 n, u], .bool true])) w' := by
  subst hO
  rw [DgPost, dgO_yes h h1 h8 hl]
  exact ⟨_, rfl, ho, hb⟩
/-- A graph under way: its box, the box of the result, its links in a row of their own. -/
structure DgL (w : World) (R P L : Nat) (n : Int) (hv : Value) (O : List LinkD) (W : World) : Prop where
  row : W.ownsRow L 46 3 hv O.length (cells3 O)
  boxG : Box W P #[.int .i64 n, hv] 26
  boxR : Box W R #[.int .i64 0, .slice none 0 0] 26
  bw : Below w.heap.size w W
section
variable {w : World} {R P L : Nat} {n : Int} {hv : Value} {O : List LinkD} {W W' : World}
theorem DgL.below (h : DgL w R P L n hv O W) (hb : Below W.heap.size W W') : DgL w R P L n hv O W' :=
  ⟨((OwnR.of h.row).below hb (Nat.le_refl _)).1, h.boxG.below hb h.boxG.lt, h.boxR.below hb h.boxR.lt, h.bw.trans (hb.mono h.bw.size)⟩
theorem DgL.box4 (h : DgL w R P L n hv O W) {ob : Obj} {W4 : World} (hg : (W.alloc ob).grownBy W4 hv.ownBlock) : Box W4 P #[.int .i64 n, hv] 26 :=
  (h.boxG.alloc ob).grown hg fun i hi e => box_own_ne h.boxG h.row (by decide) (by rw [hi, e])
theorem DgL.snoc (h : DgL w R P L n hv O W) (hR : R < L) (hw : w.heap.size ≤ R) (hwP : w.heap.size ≤ P) (hRP : R ≠ P) {ob : Obj} {W4 : World} {v' : Value} {x y z : Int} (hg : (W.alloc ob).grownBy W4 hv.ownBlock) (ho : W4.ownsRow L 46 3 v' (O.length + 1) (cells3 O ++ [.int .i64 x, .int .i64 y, .int .i64 z])) :
    DgL w R P L n v' (O ++ [(x, y, z)]) (W4.setCell ⟨P, 1, none⟩ v') := by
  have hge := own_ge h.row
  have o4 : W4.ownsRow L 46 3 v' (O ++ [(x, y, z)]).length (cells3 (O ++ [(x, y, z)])) := by simpa [cells3_snoc] using ho
  have b4 := h.box4 hg
  have r4 : Box W4 R #[.int .i64 0, .slice none 0 0] 26 := (h.boxR.alloc ob).grown hg fun i hi e => by have := hge i hi; omega
  have B4 : Below w.heap.size w W4 := Below.grown (h.bw.alloc h.bw.size _) hg (by have := h.bw.size; simp; omega) fun i hi => by have := hge i hi; omega
  exact ⟨own_setOther o4 (a := ⟨P, 1, none⟩) (box_own_ne b4 o4 (by decide)) _, box2_set1 b4 _, r4.setOther (a := ⟨P, 1, none⟩) (by simpa using hRP) _, B4.setCell (p := ⟨P, 1, none⟩) hwP _⟩
/-- The graph in the result's box. -/
theorem DgL.out (h : DgL w R P L n hv O W) (hR : R < L) (hw : w.heap.size ≤ R) (hwL : w.heap.size ≤ L) : OwnR ((W.setCell ⟨R, 0, none⟩ (.int .i64 n)).setCell ⟨R, 1, none⟩ hv) w.heap.size ((W.setCell ⟨R, 0, none⟩ (.int .i64 n)).setCell ⟨R, 1, none⟩ hv).heap.size 46 3 hv O.length (cells3 O) ∧ Below w.heap.size w ((W.setCell ⟨R, 0, none⟩ (.int .i64 n)).setCell ⟨R, 1, none⟩ hv) ∧ Box ((W.setCell ⟨R, 0, none⟩ (.int .i64 n)).setCell ⟨R, 1, none⟩ hv) R #[.int .i64 n, hv] 26 :=
  ⟨(OwnR.of (own_setCell (own_setCell h.row (a := ⟨R, 0, none⟩) hR _) (a := ⟨R, 1, none⟩) hR _)).mono hwL (Nat.le_refl _), (h.bw.setCell (p := ⟨R, 0, none⟩) hw _).setCell (p := ⟨R, 1, none⟩) hw _, box2_set1 (box2_set0 h.boxR _) _⟩
end
theorem rowN_no {db : List LsaD} {a b : Nat} (h : a < b) (hn : ¬ (0 < annD db a b ∧ 0 < annD db b a)) : rowN db a (b + 1) = rowN db a b := by rw [rowN_succ db h, lkD, if_neg hn, List.append_nil]
theorem rowN_yes {db : List LsaD} {a b : Nat} (h : a < b) {x y m : Int} (hx : annD db a b = x) (hy : annD db b a = y) (h1 : 0 < x) (h2 : 0 < y) (hm : max x y = m) : rowN db a (b + 1) = rowN db a b ++ [((a : Int), (b : Int), m)] := by
  subst hx
  subst hy
  rw [rowN_succ db h, lkD, if_pos ⟨h1, h2⟩, hm]
set_option maxRecDepth 100000 in
set_option maxHeartbeats 4000000 in
theorem iDbGraph (n : Int) (db : List LsaD) (v : Value) (w : World) (hv : LsasAt w v db) : Calls Try.prog 12 #[.int .i64 n, v] w (DgPost w n db) := by
  have HV := Lib.hid hv
  obtain ⟨va, vn, vc, rfl⟩ := hv.form
  obtain ⟨i0, hi, hz0, hz1, hz2⟩ := info_parts infoLk
  have HI := Lib.hid hi; have HZ0 := Lib.hid hz0; have HZ1 := Lib.hid hz1; have HZ2 := Lib.hid hz2
  obtain ⟨q1, hq1⟩ : ∃ q, inB n 1 8 = q := ⟨_, rfl⟩
  obtain ⟨q2, hq2⟩ : ∃ q, dbOk db = q := ⟨_, rfl⟩
  have HQ1 := Lib.hid hq1; have HQ2 := Lib.hid hq2
  clear hv hq1 hq2 hi hz0 hz1 hz2
  go_enter Try.func12, Try.ntmps12
  go_wp2_with fail
  refine (within_any n 1 8 _).mono ?_
  rw [HQ1.out]
  rintro e w' ⟨rfl, rfl⟩
  cases q1 with
  | false =>
    go_wp2_with fail
    apply bodyPost_ret
    · simp [results, Try.results12, go_sem]
      rfl
    · rfl
    · exact DgPost.no (by rw [HQ1.out]; rfl) (by simpa using ((by with_reducible (repeat (first | (refine below_drewN ?_ _) | (refine Below.drew ?_) | (refine below_alloc ?_ (by first | omega | (simp; done) | (simp; omega)) _) | (refine Below.setCell ?_ (by first | omega | (simp; done) | (simp; omega)) _) | exact Below.refl _ _ | assumption | (refine below_call ?_ (by first | omega | (simp; done) | (simp; omega)) (by assumption))))) : Below w.heap.size w _))
  | true =>
    go_wp2_with fail
    refine (iDbValid db _ _ (HV.out.below (by with_reducible (repeat (first | (refine below_drewN ?_ _) | (refine Below.drew ?_) | (refine below_alloc ?_ (by first | omega | (simp; done) | (simp; omega)) _) | (refine Below.setCell ?_ (by first | omega | (simp; done) | (simp; omega)) _) | exact Below.refl _ _ | assumption | (refine below_call ?_ (by first | omega | (simp; done) | (simp; omega)) (by assumption))))) (Nat.le_refl _))).mono ?_
    rw [HQ2.out]
    rintro e w1 ⟨rfl, hb⟩
    have R := Lib.hid (Box.call (b := w.heap.size) (c := #[.int .i64 0, .slice none 0 0]) (t := 26) hb (by with_reducible (repeat (first | (refine box_at _ _ _ ?_; first | rfl | (simp; done)) | apply Box.alloc | apply Box.drewN | apply Box.drew))))
    obtain ⟨R_0, R_1, R_2, R_3, R_4⟩ := box2 R.out
    have BW := Lib.hid (below_call (B := w.heap.size) (a := w) (by with_reducible (repeat (first | (refine below_drewN ?_ _) | (refine Below.drew ?_) | (refine below_alloc ?_ (by first | omega | (simp; done) | (simp; omega)) _) | (refine Below.setCell ?_ (by first | omega | (simp; done) | (simp; omega)) _) | exact Below.refl _ _ | assumption | (refine below_call ?_ (by first | omega | (simp; done) | (simp; omega)) (by assumption))))) (Nat.le_refl _) hb)
    clear hb
    cases q2 with
    | false =>
      go_wp2_with fail
      have R2 := box2_set1 (box2_set0 R.out (.int .i64 0)) (.slice none 0 0)
      have B2 : Below w.heap.size w ((w1.setCell ⟨w.heap.size, 0, none⟩ (.int .i64 0)).setCell ⟨w.heap.size, 1, none⟩ (.slice none 0 0)) := (BW.out.setCell (Nat.le_refl _) _).setCell (Nat.le_refl _) _
      clear R_0 R_1 R_2 R_3 R_4
      obtain ⟨c0, c1, h0, h1, hc0⟩ := box2 R2
      apply bodyPost_ret
      · simp [results, Try.results12, go_sem, c0, c1, h0, h1, hc0]
        rfl
      · rfl
      · exact DgPost.no (by rw [HQ1.out, HQ2.out]; rfl) B2
    | true =>
      obtain ⟨hn1, hn8⟩ := inB_iff.1 HQ1.out
      obtain ⟨N, rfl⟩ : ∃ N : Nat, n = N := ⟨n.toNat, by omega⟩
      have HAS := Lib.hid (dbOk_iff.1 HQ2.out).2
      have HSZ : Hid (db.length ≤ 1048576) := Lib.hid (by have := dbOk_len HQ2.out; omega)
      have hN8 : N ≤ 8 := by omega
      have hL0 : DgL w w.heap.size w1.heap.size (w1.heap.size + 1) (N:Int) (.slice none 0 0) [] (w1.alloc (.cells #[.int .i64 (N:Int), .slice none 0 0] 26)) :=
        ⟨⟨rfl, .inl ⟨rfl, rfl⟩⟩, box_new _ _ _, R.out.alloc _, BW.out.alloc BW.out.size _⟩
      have HL0 := Lib.hid hL0
      have hRP : w.heap.size < w1.heap.size := R.out.lt
      clear hL0 R_0 R_1 R_2 R_3 R_4
      go_wp2_with fail
      obtain ⟨P, hP⟩ : ∃ P, w1.heap.size = P := ⟨_, rfl⟩
      obtain ⟨W1, hW1⟩ : ∃ W1, w1.alloc (.cells #[.int .i64 (N:Int), .slice none 0 0] 26) = W1 := ⟨_, rfl⟩
      rw [hP, hW1] at HL0
      rw [hP] at hRP
      rw [hP, hW1]
      clear hP hW1 R BW
      go_loopw [23] (fun i wr => ∃ (a : Nat) (hv : Value), a ≤ N ∧ i = .int .i64 a ∧ DgL w w.heap.size P (P + 1) (N:Int) hv (upN db N a) wr) (fun i _ => N - (intOf i).toNat)
      case atStart => exact ⟨0, _, Nat.zero_le _, rfl, HL0.out⟩
      case round =>
        obtain ⟨a, hv, ha, rfl, hL⟩ := hrel
        clear HL0
        by_cases haN : a < N
        · have t1 : decide ((a:Int) < (N:Int)) = true := decide_eq_true (by omega)
          have wa : IntKind.i64.wrap ((a:Int) + 1) = (a:Int) + 1 := IntWalk.i64_in _ (by omega)
          have HLa : Hid (DgL w w.heap.size P (P + 1) (N:Int) hv (upN db N a ++ rowN db a (a + 1)) wr) := Lib.hid (by rw [rowN_start db a (a + 1) (Nat.le_refl _), List.append_nil]; exact hL)
          clear hL
          go_wp2_with fail
          go_loopw [8] (fun j wr => True ∧ ∃ (b : Nat) (hv : Value), a + 1 ≤ b ∧ b ≤ N ∧ j = .int .i64 b ∧ DgL w w.heap.size P (P + 1) (N:Int) hv (upN db N a ++ rowN db a b) wr) (fun j _ => N - (intOf j).toNat)
          case atStart => exact ⟨trivial, a + 1, _, by omega, by omega, by go_num, HLa.out⟩
          case round =>
            obtain ⟨_, b, hv, hab, hbN, rfl, hL⟩ := hrel
            clear HLa
            have HL := Lib.hid hL
            obtain ⟨O, hO⟩ : ∃ O, upN db N a ++ rowN db a b = O := ⟨_, rfl⟩
            have hOl : O.length ≤ 100 := by
              have h1 := upN_len db N a
              have h2 := rowN_len db a b
              have h3 : a * N ≤ 8 * 8 := Nat.mul_le_mul (by omega) (by omega)
              rw [← hO, List.length_append]
              omega
            rw [hO] at HL
            have HO := Lib.hid hO
            clear hL hO
            by_cases hbl : b < N
            · have t2 : decide ((b:Int) < (N:Int)) = true := decide_eq_true (by omega)
              obtain ⟨X, hX⟩ : ∃ X, annD db (a:Int) (b:Int) = X := ⟨_, rfl⟩
              obtain ⟨Y, hY⟩ : ∃ Y, annD db (b:Int) (a:Int) = Y := ⟨_, rfl⟩
              have HX := Lib.hid hX; have HY := Lib.hid hY
              clear hX hY
              go_wp2_with fail
              refine (iAnn db (a:Int) (b:Int) _ _ HAS.out (HV.out.below HL.out.bw (Nat.le_refl _)) HSZ.out).mono ?_
              rw [HX.out]
              rintro e w2 ⟨rfl, hb⟩
              replace HL := Lib.hid (HL.out.below hb)
              clear hb
              go_wp2_with fail
              refine (iAnn db (b:Int) (a:Int) _ _ HAS.out (HV.out.below HL.out.bw (Nat.le_refl _)) HSZ.out).mono ?_
              rw [HY.out]
              rintro e w3 ⟨rfl, hb⟩
              replace HL := Lib.hid (HL.out.below hb)
              clear hb
              by_cases hXY : 0 < X ∧ 0 < Y
              · obtain ⟨hx, hy⟩ := hXY
                rcases Int.lt_trichotomy X Y with h | h | h
                · have hmx : max X Y = Y := by omega
                  have HR : Hid (rowN db a (b + 1) = rowN db a b ++ [((a : Int), (b : Int), Y)]) := Lib.hid (rowN_yes (by omega) HX.out HY.out hx hy hmx)
                  have h2 : X ≤ Y := by omega
                  obtain ⟨sa, sc, rfl⟩ := own_slice HL.out.row
                  obtain ⟨b0, b1, f0, f1, hb0⟩ := box2 HL.out.boxG
                  have hge := own_ge HL.out.row
                  have hsz := HL.out.bw.size
                  go_wp2_with (at_builtin; refine wpList_append_rd rfl _ _ _ rfl (P + 1) 46 i0 _ 3 24 Try.underlying24 HI.out HZ0.out HZ1.out HZ2.out rfl (by omega) (.slice sa O.length sc) O.length (cells3 O) rfl (by with_reducible (repeat (first | exact HL.out.row | apply own_drewN | apply own_drew | apply World.ownsRow.alloc | (refine own_setCell ?_ (by first | (simp; done) | omega | (simp; omega)) _)))) (some ⟨w3.heap.size, 0, none⟩) 1 1 [.int .i64 (a:Int), .int .i64 (b:Int), .int .i64 Y] rfl (srcAt_one (n := 1) (o := 3) (box_new _ #[.int .i64 (a:Int), .int .i64 (b:Int), .int .i64 Y] _) rfl) (by simp [Value.oneCell']) (by unfold maxLen; omega) (by omega) (by simp; omega) ?_; intro v' w4 hown3 hgrow hloc; have O4 := HL.out.box4 hgrow; have q4 := box2 O4; obtain ⟨na, nc, hna⟩ := own_slice hown3; subst hna)
                  go_roundw
                  case rel => exact ⟨trivial, b + 1, _, by omega, by omega, by go_num, by rw [HR.out, ← List.append_assoc, HO.out]; exact HL.out.snoc (by omega) (Nat.le_refl _) (by omega) (by omega) hgrow hown3⟩
                  case measure => simp [intOf]; omega
                · subst h
                  have hmx : max X X = X := by omega
                  have HR : Hid (rowN db a (b + 1) = rowN db a b ++ [((a : Int), (b : Int), X)]) := Lib.hid (rowN_yes (by omega) HX.out HY.out hx hy hmx)
                  obtain ⟨sa, sc, rfl⟩ := own_slice HL.out.row
                  obtain ⟨b0, b1, f0, f1, hb0⟩ := box2 HL.out.boxG
                  have hge := own_ge HL.out.row
                  have hsz := HL.out.bw.size
                  go_wp2_with (at_builtin; refine wpList_append_rd rfl _ _ _ rfl (P + 1) 46 i0 _ 3 24 Try.underlying24 HI.out HZ0.out HZ1.out HZ2.out rfl (by omega) (.slice sa O.length sc) O.length (cells3 O) rfl (by with_reducible (repeat (first | exact HL.out.row | apply own_drewN | apply own_drew | apply World.ownsRow.alloc | (refine own_setCell ?_ (by first | (simp; done) | omega | (simp; omega)) _)))) (some ⟨w3.heap.size, 0, none⟩) 1 1 [.int .i64 (a:Int), .int .i64 (b:Int), .int .i64 X] rfl (srcAt_one (n := 1) (o := 3) (box_new _ #[.int .i64 (a:Int), .int .i64 (b:Int), .int .i64 X] _) rfl) (by simp [Value.oneCell']) (by unfold maxLen; omega) (by omega) (by simp; omega) ?_; intro v' w4 hown3 hgrow hloc; have O4 := HL.out.box4 hgrow; have q4 := box2 O4; obtain ⟨na, nc, hna⟩ := own_slice hown3; subst hna)
                  go_roundw
                  case rel => exact ⟨trivial, b + 1, _, by omega, by omega, by go_num, by rw [HR.out, ← List.append_assoc, HO.out]; exact HL.out.snoc (by omega) (Nat.le_refl _) (by omega) (by omega) hgrow hown3⟩
                  case measure => simp [intOf]; omega
                · have hmx : max X Y = X := by omega
                  have HR : Hid (rowN db a (b + 1) = rowN db a b ++ [((a : Int), (b : Int), X)]) := Lib.hid (rowN_yes (by omega) HX.out HY.out hx hy hmx)
                  have h2 : Y ≤ X := by omega
                  obtain ⟨sa, sc, rfl⟩ := own_slice HL.out.row
                  obtain ⟨b0, b1, f0, f1, hb0⟩ := box2 HL.out.boxG
                  have hge := own_ge HL.out.row
                  have hsz := HL.out.bw.size
                  go_wp2_with (at_builtin; refine wpList_append_rd rfl _ _ _ rfl (P + 1) 46 i0 _ 3 24 Try.underlying24 HI.out HZ0.out HZ1.out HZ2.out rfl (by omega) (.slice sa O.length sc) O.length (cells3 O) rfl (by with_reducible (repeat (first | exact HL.out.row | apply own_drewN | apply own_drew | apply World.ownsRow.alloc | (refine own_setCell ?_ (by first | (simp; done) | omega | (simp; omega)) _)))) (some ⟨w3.heap.size, 0, none⟩) 1 1 [.int .i64 (a:Int), .int .i64 (b:Int), .int .i64 X] rfl (srcAt_one (n := 1) (o := 3) (box_new _ #[.int .i64 (a:Int), .int .i64 (b:Int), .int .i64 X] _) rfl) (by simp [Value.oneCell']) (by unfold maxLen; omega) (by omega) (by simp; omega) ?_; intro v' w4 hown3 hgrow hloc; have O4 := HL.out.box4 hgrow; have q4 := box2 O4; obtain ⟨na, nc, hna⟩ := own_slice hown3; subst hna)
                  go_roundw
                  case rel => exact ⟨trivial, b + 1, _, by omega, by omega, by go_num, by rw [HR.out, ← List.append_assoc, HO.out]; exact HL.out.snoc (by omega) (Nat.le_refl _) (by omega) (by omega) hgrow hown3⟩
                  case measure => simp [intOf]; omega
              · have HR : Hid (rowN db a (b + 1) = rowN db a b) := Lib.hid (rowN_no (by omega) (by rw [HX.out, HY.out]; exact hXY))
                by_cases hx : 0 < X
                · have t3 : decide (0 < X) = true := decide_eq_true hx
                  have t4 : decide (0 < Y) = false := decide_eq_false (fun h => hXY ⟨hx, h⟩)
                  clear hXY
                  go_wp2_with fail
                  go_roundw
                  case rel => exact ⟨trivial, b + 1, _, by omega, by omega, by go_num, by rw [HR.out, HO.out]; exact HL.out⟩
                  case measure => simp [intOf]; omega
                · have t3 : decide (0 < X) = false := decide_eq_false hx
                  clear hXY
                  go_wp2_with fail
                  go_roundw
                  case rel => exact ⟨trivial, b + 1, _, by omega, by omega, by go_num, by rw [HR.out, HO.out]; exact HL.out⟩
                  case measure => simp [intOf]; omega
            · obtain rfl : b = N := by omega
              have t2 : decide ((b:Int) < (b:Int)) = false := decide_eq_false (by omega)
              go_wp2_with fail
              go_roundw
              case rel => exact ⟨a + 1, _, by omega, by go_num, by rw [upN, HO.out]; exact HL.out⟩
              case measure => simp [intOf]; omega
        · obtain rfl : a = N := by omega
          have t1 : decide ((a:Int) < (a:Int)) = false := decide_eq_false (by omega)
          obtain ⟨O, hO⟩ : ∃ O, upN db a a = O := ⟨_, rfl⟩
          rw [hO] at hL
          have HO : Hid (dgL db (a:Int) = O) := Lib.hid hO
          have HL := Lib.hid hL
          have hOl : O.length ≤ 100 := by
            have h1 := upN_len db a a
            have h3 : a * a ≤ 8 * 8 := Nat.mul_le_mul (by omega) (by omega)
            rw [← hO]
            omega
          clear hL hO
          obtain ⟨sa, sc, rfl⟩ := own_slice HL.out.row
          obtain ⟨b0, b1, f0, f1, hb0⟩ := box2 HL.out.boxG
          obtain ⟨c0, c1, h0, h1, hc0⟩ := box2 HL.out.boxR
          have hPR : ¬ P = w.heap.size := by omega
          by_cases h14 : O.length ≤ 14
          · have t5 : decide ((14:Int) < (O.length:Int)) = false := decide_eq_false (by omega)
            go_wp2_with fail
            obtain ⟨o5, B5, R5⟩ := HL.out.out (by omega) (Nat.le_refl _) (by omega)
            clear b0 b1 f0 f1 hb0 c0 c1 h0 h1 hc0
            obtain ⟨c0, c1, h0, h1, hc0⟩ := box2 R5
            apply bodyPost_ret
            · simp [results, Try.results12, go_sem, c0, c1, h0, h1, hc0]
              rfl
            · rfl
            · exact DgPost.yes HO.out HQ2.out hn1 hn8 h14 o5 B5
          · have t5 : decide ((14:Int) < (O.length:Int)) = true := decide_eq_true (by omega)
            go_wp2_with fail
            have R2 := box2_set1 (box2_set0 HL.out.boxR (.int .i64 0)) (.slice none 0 0)
            have B2 : Below w.heap.size w ((wr.setCell ⟨w.heap.size, 0, none⟩ (.int .i64 0)).setCell ⟨w.heap.size, 1, none⟩ (.slice none 0 0)) := (HL.out.bw.setCell (Nat.le_refl _) _).setCell (Nat.le_refl _) _
            clear b0 b1 f0 f1 hb0 c0 c1 h0 h1 hc0
            obtain ⟨c0, c1, h0, h1, hc0⟩ := box2 R2
            apply bodyPost_ret
            · simp [results, Try.results12, go_sem, c0, c1, h0, h1, hc0]
              rfl
            · rfl
            · exact DgPost.no (by rw [HO.out, HQ1.out, HQ2.out]; simpa using h14) B2
set_option maxRecDepth 100000 in
set_option maxHeartbeats 4000000 in
theorem sGraph (N : Nat) (db : List LsaD) (v : Value) (w : World) (hv : LsasAt w v db) (hN8 : N ≤ 8) : Calls Try.prog 39 #[.int .i64 (N:Int), v] w (MadeGraph w (N:Int) (dgL db (N:Int))) := by
  have HV := Lib.hid hv
  obtain ⟨va, vn, vc, rfl⟩ := hv.form
  obtain ⟨i0, hi, hz0, hz1, hz2⟩ := info_parts infoLk
  have HI := Lib.hid hi; have HZ0 := Lib.hid hz0; have HZ1 := Lib.hid hz1; have HZ2 := Lib.hid hz2
  clear hv hi hz0 hz1 hz2
  go_enter Try.func39, Try.ntmps39
  go_wp2_with fail
  obtain ⟨W1, hW1⟩ : ∃ W1, ((w.alloc (.cells #[.int .i64 0, .slice none 0 0] 26)).alloc (.cells #[] 46)).alloc (.cells #[.int .i64 (N:Int), .slice (some ⟨w.heap.size + 1, 0, none⟩) 0 0] 26) = W1 := ⟨_, rfl⟩
  obtain ⟨P, hP⟩ : ∃ P, w.heap.size + 1 + 1 = P := ⟨_, rfl⟩
  have hL0 : DgL w w.heap.size P (w.heap.size + 1) (N:Int) (.slice (some ⟨w.heap.size + 1, 0, none⟩) 0 0) [] W1 := by
    rw [← hW1, ← hP]
    exact ⟨World.ownsRow.alloc (own_new (by simp) (Nat.le_refl _)) _, box_at _ _ _ (by simp), ((box_new _ _ _).alloc _).alloc _, (by with_reducible (repeat (first | (refine below_drewN ?_ _) | (refine Below.drew ?_) | (refine below_alloc ?_ (by first | omega | (simp; done) | (simp; omega)) _) | (refine Below.setCell ?_ (by first | omega | (simp; done) | (simp; omega)) _) | exact Below.refl _ _ | assumption | (refine below_call ?_ (by first | omega | (simp; done) | (simp; omega)) (by assumption)))))⟩
  have HL0 := Lib.hid hL0
  have hRP : w.heap.size < P := by omega
  rw [hW1, hP]
  clear hL0 hP hW1
  go_loopw [6] (fun i wr => ∃ (a : Nat) (hv : Value), a ≤ N ∧ i = .int .i64 a ∧ DgL w w.heap.size P (w.heap.size + 1) (N:Int) hv (upN db N a) wr) (fun i _ => N - (intOf i).toNat)
  case atStart => exact ⟨0, _, Nat.zero_le _, rfl, HL0.out⟩
  case round =>
    obtain ⟨a, hv, ha, rfl, hL⟩ := hrel
    clear HL0
    by_cases haN : a < N
    · have t1 : decide ((a:Int) < (N:Int)) = true := decide_eq_true (by omega)
      have wa : IntKind.i64.wrap ((a:Int) + 1) = (a:Int) + 1 := IntWalk.i64_in _ (by omega)
      have HLa : Hid (DgL w w.heap.size P (w.heap.size + 1) (N:Int) hv (upN db N a ++ rowN db a (a + 1)) wr) := Lib.hid (by rw [rowN_start db a (a + 1) (Nat.le_refl _), List.append_nil]; exact hL)
      clear hL
      go_wp2_with fail
      go_loopw [7] (fun j wr => True ∧ ∃ (b : Nat) (hv : Value), a + 1 ≤ b ∧ b ≤ N ∧ j = .int .i64 b ∧ DgL w w.heap.size P (w.heap.size + 1) (N:Int) hv (upN db N a ++ rowN db a b) wr) (fun j _ => N - (intOf j).toNat)
      case atStart => exact ⟨trivial, a + 1, _, by omega, by omega, by go_num, HLa.out⟩
      case round =>
        obtain ⟨_, b, hv, hab, hbN, rfl, hL⟩ := hrel
        clear HLa
        have HL := Lib.hid hL
        obtain ⟨O, hO⟩ : ∃ O, upN db N a ++ rowN db a b = O := ⟨_, rfl⟩
        have hOl : O.length ≤ 100 := by
          have h1 := upN_len db N a
          have h2 := rowN_len db a b
          have h3 : a * N ≤ 8 * 8 := Nat.mul_le_mul (by omega) (by omega)
          rw [← hO, List.length_append]
          omega
        rw [hO] at HL
        have HO := Lib.hid hO
        clear hL hO
        by_cases hbl : b < N
        · have t2 : decide ((b:Int) < (N:Int)) = true := decide_eq_true (by omega)
          obtain ⟨X, hX⟩ : ∃ X, annD db (a:Int) (b:Int) = X := ⟨_, rfl⟩
          obtain ⟨Y, hY⟩ : ∃ Y, annD db (b:Int) (a:Int) = Y := ⟨_, rfl⟩
          have HX := Lib.hid hX; have HY := Lib.hid hY
          clear hX hY
          go_wp2_with fail
          refine (sAnn db (a:Int) (b:Int) _ _ (HV.out.below HL.out.bw (Nat.le_refl _))).mono ?_
          rw [HX.out]
          rintro e w2 ⟨rfl, hb⟩
          replace HL := Lib.hid (HL.out.below hb)
          clear hb
          go_wp2_with fail
          refine (sAnn db (b:Int) (a:Int) _ _ (HV.out.below HL.out.bw (Nat.le_refl _))).mono ?_
          rw [HY.out]
          rintro e w3 ⟨rfl, hb⟩
          replace HL := Lib.hid (HL.out.below hb)
          clear hb
          by_cases hXY : 0 < X ∧ 0 < Y
          · obtain ⟨hx, hy⟩ := hXY
            rcases Int.lt_trichotomy X Y with h | h | h
            · have hmx : max X Y = Y := by omega
              have HR : Hid (rowN db a (b + 1) = rowN db a b ++ [((a : Int), (b : Int), Y)]) := Lib.hid (rowN_yes (by omega) HX.out HY.out hx hy hmx)
              have h2 : X ≤ Y := by omega
              obtain ⟨sa, sc, rfl⟩ := own_slice HL.out.row
              obtain ⟨b0, b1, f0, f1, hb0⟩ := box2 HL.out.boxG
              have hge := own_ge HL.out.row
              have hsz := HL.out.bw.size
              go_wp2_with (at_builtin; refine wpList_append_rd rfl _ _ _ rfl (w.heap.size + 1) 46 i0 _ 3 24 Try.underlying24 HI.out HZ0.out HZ1.out HZ2.out rfl (by omega) (.slice sa O.length sc) O.length (cells3 O) rfl (by with_reducible (repeat (first | exact HL.out.row | apply own_drewN | apply own_drew | apply World.ownsRow.alloc | (refine own_setCell ?_ (by first | (simp; done) | omega | (simp; omega)) _)))) (some ⟨w3.heap.size, 0, none⟩) 1 1 [.int .i64 (a:Int), .int .i64 (b:Int), .int .i64 Y] rfl (srcAt_one (n := 1) (o := 3) (box_new _ #[.int .i64 (a:Int), .int .i64 (b:Int), .int .i64 Y] _) rfl) (by simp [Value.oneCell']) (by unfold maxLen; omega) (by omega) (by simp; omega) ?_; intro v' w4 hown3 hgrow hloc; have O4 := HL.out.box4 hgrow; have q4 := box2 O4; obtain ⟨na, nc, hna⟩ := own_slice hown3; subst hna)
              go_roundw
              case rel => exact ⟨trivial, b + 1, _, by omega, by omega, by go_num, by rw [HR.out, ← List.append_assoc, HO.out]; exact HL.out.snoc (by omega) (Nat.le_refl _) (by omega) (by omega) hgrow hown3⟩
              case measure => simp [intOf]; omega
            · subst h
              have hmx : max X X = X := by omega
              have HR : Hid (rowN db a (b + 1) = rowN db a b ++ [((a : Int), (b : Int), X)]) := Lib.hid (rowN_yes (by omega) HX.out HY.out hx hy hmx)
              obtain ⟨sa, sc, rfl⟩ := own_slice HL.out.row
              obtain ⟨b0, b1, f0, f1, hb0⟩ := box2 HL.out.boxG
              have hge := own_ge HL.out.row
              have hsz := HL.out.bw.size
              go_wp2_with (at_builtin; refine wpList_append_rd rfl _ _ _ rfl (w.heap.size + 1) 46 i0 _ 3 24 Try.underlying24 HI.out HZ0.out HZ1.out HZ2.out rfl (by omega) (.slice sa O.length sc) O.length (cells3 O) rfl (by with_reducible (repeat (first | exact HL.out.row | apply own_drewN | apply own_drew | apply World.ownsRow.alloc | (refine own_setCell ?_ (by first | (simp; done) | omega | (simp; omega)) _)))) (some ⟨w3.heap.size, 0, none⟩) 1 1 [.int .i64 (a:Int), .int .i64 (b:Int), .int .i64 X] rfl (srcAt_one (n := 1) (o := 3) (box_new _ #[.int .i64 (a:Int), .int .i64 (b:Int), .int .i64 X] _) rfl) (by simp [Value.oneCell']) (by unfold maxLen; omega) (by omega) (by simp; omega) ?_; intro v' w4 hown3 hgrow hloc; have O4 := HL.out.box4 hgrow; have q4 := box2 O4; obtain ⟨na, nc, hna⟩ := own_slice hown3; subst hna)
              go_roundw
              case rel => exact ⟨trivial, b + 1, _, by omega, by omega, by go_num, by rw [HR.out, ← List.append_assoc, HO.out]; exact HL.out.snoc (by omega) (Nat.le_refl _) (by omega) (by omega) hgrow hown3⟩
              case measure => simp [intOf]; omega
            · have hmx : max X Y = X := by omega
              have HR : Hid (rowN db a (b + 1) = rowN db a b ++ [((a : Int), (b : Int), X)]) := Lib.hid (rowN_yes (by omega) HX.out HY.out hx hy hmx)
              have h2 : Y ≤ X := by omega
              obtain ⟨sa, sc, rfl⟩ := own_slice HL.out.row
              obtain ⟨b0, b1, f0, f1, hb0⟩ := box2 HL.out.boxG
              have hge := own_ge HL.out.row
              have hsz := HL.out.bw.size
              go_wp2_with (at_builtin; refine wpList_append_rd rfl _ _ _ rfl (w.heap.size + 1) 46 i0 _ 3 24 Try.underlying24 HI.out HZ0.out HZ1.out HZ2.out rfl (by omega) (.slice sa O.length sc) O.length (cells3 O) rfl (by with_reducible (repeat (first | exact HL.out.row | apply own_drewN | apply own_drew | apply World.ownsRow.alloc | (refine own_setCell ?_ (by first | (simp; done) | omega | (simp; omega)) _)))) (some ⟨w3.heap.size, 0, none⟩) 1 1 [.int .i64 (a:Int), .int .i64 (b:Int), .int .i64 X] rfl (srcAt_one (n := 1) (o := 3) (box_new _ #[.int .i64 (a:Int), .int .i64 (b:Int), .int .i64 X] _) rfl) (by simp [Value.oneCell']) (by unfold maxLen; omega) (by omega) (by simp; omega) ?_; intro v' w4 hown3 hgrow hloc; have O4 := HL.out.box4 hgrow; have q4 := box2 O4; obtain ⟨na, nc, hna⟩ := own_slice hown3; subst hna)
              go_roundw
              case rel => exact ⟨trivial, b + 1, _, by omega, by omega, by go_num, by rw [HR.out, ← List.append_assoc, HO.out]; exact HL.out.snoc (by omega) (Nat.le_refl _) (by omega) (by omega) hgrow hown3⟩
              case measure => simp [intOf]; omega
          · have HR : Hid (rowN db a (b + 1) = rowN db a b) := Lib.hid (rowN_no (by omega) (by rw [HX.out, HY.out]; exact hXY))
            by_cases hx : 0 < X
            · have t3 : decide (0 < X) = true := decide_eq_true hx
              have t4 : decide (0 < Y) = false := decide_eq_false (fun h => hXY ⟨hx, h⟩)
              clear hXY
              go_wp2_with fail
              go_roundw
              case rel => exact ⟨trivial, b + 1, _, by omega, by omega, by go_num, by rw [HR.out, HO.out]; exact HL.out⟩
              case measure => simp [intOf]; omega
            · have t3 : decide (0 < X) = false := decide_eq_false hx
              clear hXY
              go_wp2_with fail
              go_roundw
              case rel => exact ⟨trivial, b + 1, _, by omega, by omega, by go_num, by rw [HR.out, HO.out]; exact HL.out⟩
              case measure => simp [intOf]; omega
        · obtain rfl : b = N := by omega
          have t2 : decide ((b:Int) < (b:Int)) = false := decide_eq_false (by omega)
          go_wp2_with fail
          go_roundw
          case rel => exact ⟨a + 1, _, by omega, by go_num, by rw [upN, HO.out]; exact HL.out⟩
          case measure => simp [intOf]; omega
    · obtain rfl : a = N := by omega
      have t1 : decide ((a:Int) < (a:Int)) = false := decide_eq_false (by omega)
      obtain ⟨O, hO⟩ : ∃ O, upN db a a = O := ⟨_, rfl⟩
      rw [hO] at hL
      have HO : Hid (dgL db (a:Int) = O) := Lib.hid hO
      have HL := Lib.hid hL
      clear hL hO
      obtain ⟨sa, sc, rfl⟩ := own_slice HL.out.row
      obtain ⟨b0, b1, f0, f1, hb0⟩ := box2 HL.out.boxG
      obtain ⟨c0, c1, h0, h1, hc0⟩ := box2 HL.out.boxR
      have hPR : ¬ P = w.heap.size := by omega
      go_wp2_with fail
      obtain ⟨o5, B5, R5⟩ := HL.out.out (by omega) (Nat.le_refl _) (by omega)
      clear b0 b1 f0 f1 hb0 c0 c1 h0 h1 hc0
      obtain ⟨c0, c1, h0, h1, hc0⟩ := box2 R5
      apply bodyPost_ret
      · simp [results, Try.results39, go_sem, c0, c1, h0, h1, hc0]
        rfl
      · rfl
      · rw [MadeGraph, HO.out]
        exact ⟨_, rfl, o5, B5⟩
set_option maxRecDepth 100000 in
set_option maxHeartbeats 4000000 in
theorem sDbGraph (n : Int) (db : List LsaD) (v : Value) (w : World) (hv : LsasAt w v db) : Calls Try.prog 10 #[.int .i64 n, v] w (DgPost w n db) := by
  have HV := Lib.hid hv
  obtain ⟨va, vn, vc, rfl⟩ := hv.form
  obtain ⟨q1, hq1⟩ : ∃ q, inB n 1 8 = q := ⟨_, rfl⟩
  obtain ⟨q2, hq2⟩ : ∃ q, dbOk db = q := ⟨_, rfl⟩
  have HQ1 := Lib.hid hq1; have HQ2 := Lib.hid hq2
  clear hv hq1 hq2
  go_enter Try.func10, Try.ntmps10
  go_wp2_with fail
  refine (l6In_any n 1 8 _).mono ?_
  rw [HQ1.out]
  rintro e w' ⟨rfl, rfl⟩
  cases q1 with
  | false =>
    go_wp2_with fail
    apply bodyPost_ret
    · simp [results, Try.results10, go_sem]
      rfl
    · rfl
    · exact DgPost.no (by rw [HQ1.out]; rfl) (by simpa using ((by with_reducible (repeat (first | (refine below_drewN ?_ _) | (refine Below.drew ?_) | (refine below_alloc ?_ (by first | omega | (simp; done) | (simp; omega)) _) | (refine Below.setCell ?_ (by first | omega | (simp; done) | (simp; omega)) _) | exact Below.refl _ _ | assumption | (refine below_call ?_ (by first | omega | (simp; done) | (simp; omega)) (by assumption))))) : Below w.heap.size w _))
  | true =>
    go_wp2_with fail
    refine (sDbValid db _ _ (HV.out.below (by with_reducible (repeat (first | (refine below_drewN ?_ _) | (refine Below.drew ?_) | (refine below_alloc ?_ (by first | omega | (simp; done) | (simp; omega)) _) | (refine Below.setCell ?_ (by first | omega | (simp; done) | (simp; omega)) _) | exact Below.refl _ _ | assumption | (refine below_call ?_ (by first | omega | (simp; done) | (simp; omega)) (by assumption))))) (Nat.le_refl _))).mono ?_
    rw [HQ2.out]
    rintro e w1 ⟨rfl, hb⟩
    have R := Lib.hid (Box.call (b := w.heap.size) (c := #[.int .i64 0, .slice none 0 0]) (t := 26) hb (by with_reducible (repeat (first | (refine box_at _ _ _ ?_; first | rfl | (simp; done)) | apply Box.alloc | apply Box.drewN | apply Box.drew))))
    obtain ⟨R_0, R_1, R_2, R_3, R_4⟩ := box2 R.out
    have BW := Lib.hid (below_call (B := w.heap.size) (a := w) (by with_reducible (repeat (first | (refine below_drewN ?_ _) | (refine Below.drew ?_) | (refine below_alloc ?_ (by first | omega | (simp; done) | (simp; omega)) _) | (refine Below.setCell ?_ (by first | omega | (simp; done) | (simp; omega)) _) | exact Below.refl _ _ | assumption | (refine below_call ?_ (by first | omega | (simp; done) | (simp; omega)) (by assumption))))) (Nat.le_refl _) hb)
    clear hb
    cases q2 with
    | false =>
      go_wp2_with fail
      have R2 := box2_set1 (box2_set0 R.out (.int .i64 0)) (.slice none 0 0)
      have B2 : Below w.heap.size w ((w1.setCell ⟨w.heap.size, 0, none⟩ (.int .i64 0)).setCell ⟨w.heap.size, 1, none⟩ (.slice none 0 0)) := (BW.out.setCell (Nat.le_refl _) _).setCell (Nat.le_refl _) _
      clear R_0 R_1 R_2 R_3 R_4
      obtain ⟨c0, c1, h0, h1, hc0⟩ := box2 R2
      apply bodyPost_ret
      · simp [results, Try.results10, go_sem, c0, c1, h0, h1, hc0]
        rfl
      · rfl
      · exact DgPost.no (by rw [HQ1.out, HQ2.out]; rfl) B2
    | true =>
      obtain ⟨hn1, hn8⟩ := inB_iff.1 HQ1.out
      obtain ⟨N, rfl⟩ : ∃ N : Nat, n = N := ⟨n.toNat, by omega⟩
      have hN8 : N ≤ 8 := by omega
      have hg := dg_ok HQ2.out hn1 hn8
      obtain ⟨O, hO⟩ : ∃ O, dgL db (N:Int) = O := ⟨_, rfl⟩
      rw [hO] at hg
      have HO := Lib.hid hO; have HG := Lib.hid hg
      clear hO hg
      go_wp2_with fail
      refine (sGraph N db _ _ (HV.out.below BW.out (Nat.le_refl _)) hN8).mono ?_
      rintro e w2 ⟨u, rfl, hO, hb⟩
      rw [HO.out] at hO
      obtain ⟨ua, uc, rfl⟩ := own_slice hO.1
      have hRl := R.out.lt
      have hL0 : DgL w w.heap.size w2.heap.size w1.heap.size (N:Int) (.slice ua O.length uc) O (w2.alloc (.cells #[.int .i64 (N:Int), .slice ua O.length uc] 26)) :=
        ⟨hO.1.alloc _, box_new _ _ _, (R.out.below hb R.out.lt).alloc _, (BW.out.trans (hb.mono BW.out.size)).alloc (Nat.le_trans BW.out.size hb.size) _⟩
      have HL0 := Lib.hid hL0
      have hRP : w.heap.size < w2.heap.size := Nat.lt_of_lt_of_le hRl hb.size
      clear hL0 R_0 R_1 R_2 R_3 R_4 hO hb
      go_wp2_with fail
      refine (sGraphValid (N:Int) O _ _ (own_triples (OwnR.of HL0.out.row))).mono ?_
      rw [HG.out]
      rintro e w3 ⟨rfl, hb⟩
      have HL := Lib.hid (HL0.out.below hb)
      clear hb HL0 R
      obtain ⟨b0, b1, f0, f1, hb0⟩ := box2 HL.out.boxG
      obtain ⟨c0, c1, h0, h1, hc0⟩ := box2 HL.out.boxR
      have hPR : ¬ w2.heap.size = w.heap.size := by omega
      by_cases h14 : O.length ≤ 14
      · rw [decide_eq_true h14]
        go_wp2_with fail
        obtain ⟨o5, B5, R5⟩ := HL.out.out hRl (Nat.le_refl _) (by omega)
        clear b0 b1 f0 f1 hb0 c0 c1 h0 h1 hc0
        obtain ⟨c0, c1, h0, h1, hc0⟩ := box2 R5
        apply bodyPost_ret
        · simp [results, Try.results10, go_sem, c0, c1, h0, h1, hc0]
          rfl
        · rfl
        · exact DgPost.yes HO.out HQ2.out hn1 hn8 h14 o5 B5
      · rw [decide_eq_false h14]
        go_wp2_with fail
        have R2 := box2_set1 (box2_set0 HL.out.boxR (.int .i64 0)) (.slice none 0 0)
        have B2 : Below w.heap.size w ((w3.setCell ⟨w.heap.size, 0, none⟩ (.int .i64 0)).setCell ⟨w.heap.size, 1, none⟩ (.slice none 0 0)) := (HL.out.bw.setCell (Nat.le_refl _) _).setCell (Nat.le_refl _) _
        clear b0 b1 f0 f1 hb0 c0 c1 h0 h1 hc0
        obtain ⟨c0, c1, h0, h1, hc0⟩ := box2 R2
        apply bodyPost_ret
        · simp [results, Try.results10, go_sem, c0, c1, h0, h1, hc0]
          rfl
        · rfl
        · exact DgPost.no (by rw [HO.out, HQ1.out, HQ2.out]; simpa using h14) B2
theorem dg_at {w w' : World} {n x : Int} {db : List LsaD} {O : List LinkD} {q : Bool} {e : Ending} (hd : dgO n db = ((x, O), q)) (h : DgPost w n db e w') : ∃ u, e = .returned (.tuple #[.agg #[.int .i64 x, u], .bool q]) ∧ OwnR w' w.heap.size w'.heap.size 46 3 u O.length (cells3 O) ∧ Below w.heap.size w w' := by
  rw [DgPost, hd] at h
  exact h
theorem dg_len {n x : Int} {db : List LsaD} {O : List LinkD} {q : Bool} (hd : dgO n db = ((x, O), q)) : O.length ≤ 14 := by
  rcases dgO_cases n db with h | ⟨h, _, _, _, hl, _⟩
  · rw [hd] at h
    injection h with h1 _
    injection h1 with _ h2
    rw [h2]; simp
  · rw [hd] at h
    injection h with h1 _
    injection h1 with _ h2
    rw [h2]; exact hl
end Go.Proofs.Ytnnkdoomjkccgaa
