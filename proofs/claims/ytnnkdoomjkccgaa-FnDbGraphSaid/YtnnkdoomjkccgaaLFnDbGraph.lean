/- FnDbGraph: for every input the call returns true, and the argument reads afterwards as before. No condition. -/
import Derived.Test.YtnnkdoomjkccgaaDrawDg
import Derived.Test.YtnnkdoomjkccgaaDbG
import Derived.Test.YtnnkdoomjkccgaaLsO
import Derived.Test.YtnnkdoomjkccgaaMarkA
import Derived.Test.YtnnkdoomjkccgaaScan
import Derived.Test.YtnnkdoomjkccgaaRows
import Derived.Test.YtnnkdoomjkccgaaOpen
import Derived.ProofKit
import Derived.OpenShut
import Derived.ShutString
import Derived.ChangeOld
import Derived.Lib.SmallJoins
namespace Go.Proofs.Ytnnkdoomjkccgaa.lawFnDbGraph
set_option linter.unusedSimpArgs false
set_option linter.unusedVariables false
open Go.ChangeShapes Go.WideShapes Go.ChangeAt Go.RowKit Go.Joins
theorem lsasOpen {w : World} {v : Value} {db : List LsaD} (h : LsasAt w v db) : ∃ A c, v = .slice A db.length c ∧ db.length ≤ c ∧ c ≤ maxLen := let ⟨A, c, _, _, hv, h1, h2, _⟩ := h; ⟨A, c, hv, h1, h2⟩
/-- What the law carries: the world below, the announcements, the graph and its box. -/
structure StC (w : World) (v : Value) (db : List LsaD) (G : Nat) (n : Int) (u : Value) (O : List LinkD) (W : World) : Prop where
  bw : Below w.heap.size w W
  lsa : LsasAt W v db
  box : Box W G #[.int .i64 n, u] 26
  tri : TriplesAt W u O
theorem StC.below {w : World} {v : Value} {db : List LsaD} {G : Nat} {n : Int} {u : Value} {O : List LinkD} {W W' : World} (h : StC w v db G n u O W) (hb : Below W.heap.size W W') : StC w v db G n u O W' :=
  ⟨h.bw.trans (hb.mono h.bw.size), h.lsa.below hb (Nat.le_refl _), h.box.below hb h.box.lt, h.tri.below hb (Nat.le_refl _)⟩
set_option maxRecDepth 100000 in
set_option maxHeartbeats 8000000 in
theorem walk (v : Value) (w : World) (h : CodeAt w v) :
    Calls Try.prog 4 #[v] w fun e w' => e = .returned (.bool true) ∧ Below w.heap.size w w' := by
  obtain ⟨a0, n0, cap0, b0, off0, rfl, hcap0, hmax0, ha0, hc0⟩ := id h
  unfold maxLen at hmax0
  clear ha0 hc0
  have H := Lib.hid h
  clear h
  by_cases hn : 1048576 < n0
  · go_enter Try.func4, Try.ntmps4
    go_wp2
    go_ret
    exact ⟨rfl, Below.refl _ _⟩
  go_enter Try.func4, Try.ntmps4
  go_wp2_with fail
  refine (drawDbg _ _ H.out).mono ?_
  rintro e w1 ⟨⟨n, dv, db, rfl, hL, hl100⟩, hb⟩
  obtain ⟨da, dc, rfl, hdc, hdm⟩ := lsasOpen hL
  unfold maxLen at hdm
  obtain ⟨m, hm⟩ : ∃ m, m = db.length := ⟨_, rfl⟩
  have HLS := Lib.hid hL
  have HBW := Lib.hid hb
  rw [← hm] at HLS hdc hl100 ⊢
  have HM := Lib.hid hm
  clear hL hb hm
  obtain ⟨⟨⟨gn, O⟩, q⟩, hd⟩ : ∃ r, dgO n db = r := ⟨_, rfl⟩
  have HD := Lib.hid hd
  have hO14 := dg_len hd
  clear hd
  go_wp2_with fail
  refine ((iDbGraph n db _ _ HLS.out).mono fun _ _ h => dg_at HD.out h).mono ?_
  rintro e w2 ⟨u2, rfl, hO, hb⟩
  replace HBW := Lib.hid (HBW.out.trans (hb.mono HBW.out.size))
  replace HLS := Lib.hid (HLS.out.below hb (Nat.le_refl _))
  have HG2 := Lib.hid (own_triples hO)
  obtain ⟨ua, uc, rfl⟩ := own_slice hO.1
  clear hO hb
  go_wp2_with fail
  have kb : Below w2.heap.size w2 (w2.alloc (.cells #[.int .i64 gn, .slice ua O.length uc] 26)) := (Below.refl _ _).alloc (Nat.le_refl _) _
  have HST : Hid (StC w (.slice da m dc) db w2.heap.size gn (.slice ua O.length uc) O (w2.alloc (.cells #[.int .i64 gn, .slice ua O.length uc] 26))) := Lib.hid ⟨HBW.out.alloc HBW.out.size _, HLS.out.below kb (Nat.le_refl _), box_new _ _ _, HG2.out.below kb (Nat.le_refl _)⟩
  clear kb HBW HLS HG2
  refine ((sDbGraph n db _ _ HST.out.lsa).mono fun _ _ h => dg_at HD.out h).mono ?_
  rintro e w3 ⟨u3, rfl, hO, hb⟩
  replace HST := Lib.hid (HST.out.below hb)
  have HG3 := Lib.hid (own_triples hO)
  obtain ⟨va, vc, rfl⟩ := own_slice hO.1
  clear hO hb
  obtain ⟨c0, c1, f0, f1, l0⟩ := box2 HST.out.box
  have hqq : (q != q) = false := by simp
  have hqe : (q == q) = true := by simp
  go_wp2_with fail
  have kb : Below w3.heap.size w3 (w3.alloc (.cells #[.int .i64 gn, .slice va O.length vc] 26)) := (Below.refl _ _).alloc (Nat.le_refl _) _
  replace HST := Lib.hid (HST.out.below kb)
  replace HG3 := Lib.hid (HG3.out.below kb (Nat.le_refl _))
  have HC3 := Lib.hid (box_new w3 #[.int .i64 gn, .slice va O.length vc] 26)
  refine (sameGraph_self gn O _ _ _ HST.out.tri HG3.out).mono ?_
  rintro e w4 ⟨rfl, hb⟩
  replace HST := Lib.hid (HST.out.below hb)
  replace HG3 := Lib.hid (HG3.out.below hb (Nat.le_refl _))
  replace HC3 := Lib.hid (HC3.out.below hb HC3.out.lt)
  clear hb kb c0 c1 f0 f1 l0
  cases q with
  | false =>
    obtain ⟨c0, c1, f0, f1, l0⟩ := box2 HST.out.box
    obtain ⟨d0, d1, g0, g1, k0⟩ := box2 HC3.out
    go_wp2_with fail
    refine (sameGraph_self gn O _ _ _ HST.out.tri HG3.out).mono ?_
    rintro e w5 ⟨rfl, hb⟩
    replace HST := Lib.hid (HST.out.below hb)
    clear hb
    go_wp2_with fail
    go_ret
    exact ⟨rfl, HST.out.bw⟩
  | true =>
    have hyes : gn = n ∧ O = dgL db n ∧ dbOk db = true ∧ 1 ≤ n ∧ n ≤ 8 ∧ GOk n (dgL db n) := by
      rcases dgO_cases n db with h | ⟨h, h1, h2, h3, h4, h5⟩
      · rw [HD.out] at h
        injection h with _ h
        cases h
      · rw [HD.out] at h
        injection h with h _
        injection h with e1 e2
        exact ⟨e1, e2, h1, h2, h3, h5⟩
    obtain ⟨rfl, hOd, hok, hn1, hn8, hgk⟩ := hyes
    have HOD := Lib.hid hOd
    have HOK := Lib.hid hok
    have HGK : Hid (GOk gn O) := Lib.hid (by rw [hOd]; exact hgk)
    obtain ⟨N, rfl⟩ : ∃ N : Nat, gn = N := ⟨gn.toNat, by omega⟩
    clear hOd hok hgk HC3 HG3 HD
    go_wp2_with fail
    go_loopw [9] (fun i wr => ∃ a : Nat, a ≤ N ∧ i = .int .i64 a ∧ StC w (.slice da m dc) db w2.heap.size (N:Int) (.slice ua O.length uc) O wr) (fun i _ => N - (intOf i).toNat)
    case atStart => exact ⟨0, Nat.zero_le _, rfl, HST.out⟩
    case round =>
      obtain ⟨a, ha, rfl, hS⟩ := hrel
      clear HST
      have HS := Lib.hid hS
      clear hS
      by_cases haN : a < N
      rotate_left
      · have t2 : decide ((a:Int) < (N:Int)) = false := decide_eq_false (by omega)
        obtain ⟨c0, c1, f0, f1, l0⟩ := box2 HS.out.box
        have hgv : gOk (N:Int) O = true := gOk_iff.2 HGK.out
        have HGV := Lib.hid hgv
        clear hgv
        go_wp2_with fail
        refine (iGraphValid (N:Int) O _ _ HS.out.tri).mono ?_
        rw [HGV.out]
        rintro e w5 ⟨rfl, hb⟩
        replace HS := Lib.hid (HS.out.below hb)
        clear hb
        go_wp2_with fail
        go_ret
        exact ⟨rfl, HS.out.bw⟩
      have t2 : decide ((a:Int) < (N:Int)) = true := decide_eq_true (by omega)
      have wa : IntKind.i64.wrap ((a:Int) + 1) = (a:Int) + 1 := IntWalk.i64_in _ (by omega)
      go_wp2_with fail
      go_loopw [10] (fun j wr => True ∧ ∃ b : Nat, a + 1 ≤ b ∧ b ≤ N ∧ j = .int .i64 b ∧ StC w (.slice da m dc) db w2.heap.size (N:Int) (.slice ua O.length uc) O wr) (fun j _ => N - (intOf j).toNat)
      case atStart => exact ⟨trivial, a + 1, Nat.le_refl _, by omega, by go_num, HS.out⟩
      case round =>
        obtain ⟨_, b, hab, hbN, rfl, hS⟩ := hrel
        clear HS
        have HS := Lib.hid hS
        clear hS
        by_cases hbl : b < N
        rotate_left
        · have t3 : decide ((b:Int) < (N:Int)) = false := decide_eq_false (by omega)
          go_wp2_with fail
          go_roundw
          case rel => exact ⟨a + 1, by omega, by go_num, HS.out⟩
          case measure => simp [intOf]; omega
        have t3 : decide ((b:Int) < (N:Int)) = true := decide_eq_true (by omega)
        -- the announcements as they lie
        obtain ⟨A', c', lb, lo, e1, _, _, e4, e5⟩ := HS.out.lsa
        injection e1 with e1 e1m e1c
        subst e1
        have HA := Lib.hid e4; have HC := Lib.hid e5
        clear e1m e1c e4 e5
        go_wp2_with fail
        go_loop [11, 12, 13] (fun xv yv iv => True ∧ ∃ (i : Nat) (X Y : Int), i ≤ m ∧ iv = .int .i64 i ∧ xv = .int .i64 X ∧ yv = .int .i64 Y ∧ Hid (X = scanD (a:Int) (b:Int) (db.take i) 0) ∧ Hid (Y = scanD (b:Int) (a:Int) (db.take i) 0)) (fun _ _ iv => m - (intOf iv).toNat)
        case atStart => exact ⟨trivial, 0, 0, 0, Nat.zero_le _, rfl, rfl, rfl, Lib.hid rfl, Lib.hid rfl⟩
        case round =>
          obtain ⟨_, i, X, Y, hi, rfl, rfl, rfl, HX, HY⟩ := hrel
          by_cases him : i < m
          · have t4 : decide ((i:Int) < (m:Int)) = true := decide_eq_true (by omega)
            obtain ⟨⟨o, s, es⟩, hd⟩ := at_lt HM.out him
            have hA := HA.out (by have := HM.out; omega)
            subst hA
            obtain ⟨u, d0, d1, d2, hu⟩ := HC.out i o s es hd
            obtain ⟨ea, ec, eb, eo, rfl, hec, hem, hea, hcc⟩ := hu
            unfold maxLen at hem
            obtain ⟨em, hme⟩ : ∃ k, k = es.length := ⟨_, rfl⟩
            rw [← hme] at hec hea d2
            have HME := Lib.hid hme; have HEA := Lib.hid hea; have HCC := Lib.hid hcc; have HDD := Lib.hid hd
            have hiI : (i:Int) < (m:Int) := by omega
            have hi0 : (0:Int) ≤ (i:Int) := by omega
            clear hme hea hcc hd
            go_wp2_with fail
            go_loop [11, 12, 14] (fun xv yv kv => True ∧ ∃ (k : Nat) (X' Y' : Int), k ≤ em ∧ kv = .int .i64 k ∧ xv = .int .i64 X' ∧ yv = .int .i64 Y' ∧ Hid (X' = scanE (a:Int) (b:Int) o (es.take k) X) ∧ Hid (Y' = scanE (b:Int) (a:Int) o (es.take k) Y)) (fun _ _ kv => em - (intOf kv).toNat)
            case atStart => exact ⟨trivial, 0, X, Y, Nat.zero_le _, rfl, rfl, rfl, Lib.hid rfl, Lib.hid rfl⟩
            case round =>
              obtain ⟨_, k, X', Y', hk, rfl, rfl, rfl, HX', HY'⟩ := hrel
              by_cases hkm : k < em
              · have t5 : decide ((k:Int) < (em:Int)) = true := decide_eq_true (by omega)
                obtain ⟨⟨p, c⟩, hp⟩ := at_lt HME.out hkm
                have hea := HEA.out (by omega)
                subst hea
                obtain ⟨q0, q1⟩ := HCC.out k p c hp
                have hkI : (k:Int) < (em:Int) := by omega
                have HXS : Hid (scanE (a:Int) (b:Int) o (es.take (k + 1)) X = stepE (a:Int) (b:Int) o X' (p, c)) := Lib.hid (by rw [scanE_succ hp, HX'.out])
                have HYS : Hid (scanE (b:Int) (a:Int) o (es.take (k + 1)) Y = stepE (b:Int) (a:Int) o Y' (p, c)) := Lib.hid (by rw [scanE_succ hp, HY'.out])
                clear hp
                by_cases h1 : o = (a:Int)
                · have g1 : (o == (a:Int)) = true := by simpa using h1
                  have g2 : (o == (b:Int)) = false := by rw [beq_eq_false_iff_ne]; omega
                  have HY2 : Hid (stepE (b:Int) (a:Int) o Y' (p, c) = Y') := Lib.hid (if_neg fun h => by have := h.1; omega)
                  by_cases h2 : p = (b:Int)
                  · have g3 : (p == (b:Int)) = true := by simpa using h2
                    have HX2 : Hid (stepE (a:Int) (b:Int) o X' (p, c) = c) := Lib.hid (if_pos ⟨h1, h2⟩)
                    clear h1 h2
                    go_wp2_with fail
                    go_round
                    case rel => exact ⟨trivial, k + 1, c, Y', by omega, by go_num, rfl, rfl, Lib.hid (by rw [HXS.out, HX2.out]), Lib.hid (by rw [HYS.out, HY2.out])⟩
                    case measure => simp [intOf]; omega
                  · have g3 : (p == (b:Int)) = false := by simpa using h2
                    have HX2 : Hid (stepE (a:Int) (b:Int) o X' (p, c) = X') := Lib.hid (if_neg fun h => h2 h.2)
                    clear h1 h2
                    go_wp2_with fail
                    go_round
                    case rel => exact ⟨trivial, k + 1, X', Y', by omega, by go_num, rfl, rfl, Lib.hid (by rw [HXS.out, HX2.out]), Lib.hid (by rw [HYS.out, HY2.out])⟩
                    case measure => simp [intOf]; omega
                · have g1 : (o == (a:Int)) = false := by simpa using h1
                  have HX2 : Hid (stepE (a:Int) (b:Int) o X' (p, c) = X') := Lib.hid (if_neg fun h => h1 h.1)
                  by_cases h2 : o = (b:Int)
                  · have g2 : (o == (b:Int)) = true := by simpa using h2
                    by_cases h3 : p = (a:Int)
                    · have g3 : (p == (a:Int)) = true := by simpa using h3
                      have HY2 : Hid (stepE (b:Int) (a:Int) o Y' (p, c) = c) := Lib.hid (if_pos ⟨h2, h3⟩)
                      clear h1 h2 h3
                      go_wp2_with fail
                      go_round
                      case rel => exact ⟨trivial, k + 1, X', c, by omega, by go_num, rfl, rfl, Lib.hid (by rw [HXS.out, HX2.out]), Lib.hid (by rw [HYS.out, HY2.out])⟩
                      case measure => simp [intOf]; omega
                    · have g3 : (p == (a:Int)) = false := by simpa using h3
                      have HY2 : Hid (stepE (b:Int) (a:Int) o Y' (p, c) = Y') := Lib.hid (if_neg fun h => h3 h.2)
                      clear h1 h2 h3
                      go_wp2_with fail
                      go_round
                      case rel => exact ⟨trivial, k + 1, X', Y', by omega, by go_num, rfl, rfl, Lib.hid (by rw [HXS.out, HX2.out]), Lib.hid (by rw [HYS.out, HY2.out])⟩
                      case measure => simp [intOf]; omega
                  · have g2 : (o == (b:Int)) = false := by simpa using h2
                    have HY2 : Hid (stepE (b:Int) (a:Int) o Y' (p, c) = Y') := Lib.hid (if_neg fun h => h2 h.1)
                    clear h1 h2
                    go_wp2_with fail
                    go_round
                    case rel => exact ⟨trivial, k + 1, X', Y', by omega, by go_num, rfl, rfl, Lib.hid (by rw [HXS.out, HX2.out]), Lib.hid (by rw [HYS.out, HY2.out])⟩
                    case measure => simp [intOf]; omega
              · have t5 : decide ((k:Int) < (em:Int)) = false := decide_eq_false (by omega)
                have htk : es.take k = es := List.take_of_length_le (by have := HME.out; omega)
                have HXD : Hid (X' = scanD (a:Int) (b:Int) (db.take (i + 1)) 0) := Lib.hid (by rw [HX'.out, htk, scanD_succ HDD.out, ← HX.out])
                have HYD : Hid (Y' = scanD (b:Int) (a:Int) (db.take (i + 1)) 0) := Lib.hid (by rw [HY'.out, htk, scanD_succ HDD.out, ← HY.out])
                clear htk
                go_wp2_with fail
                go_round
                case rel => exact ⟨trivial, i + 1, X', Y', by omega, by go_num, rfl, rfl, HXD, HYD⟩
                case measure => simp [intOf]; omega
          · have t4 : decide ((i:Int) < (m:Int)) = false := decide_eq_false (by omega)
            have htk : db.take i = db := List.take_of_length_le (by have := HM.out; omega)
            have hX : annD db (a:Int) (b:Int) = X := by rw [HX.out, htk, scanD_eq HOK.out]
            have hY : annD db (b:Int) (a:Int) = Y := by rw [HY.out, htk, scanD_eq HOK.out]
            obtain ⟨l1, l2⟩ := dg_link (db := db) (n := (N:Int)) (by omega) (a := (a:Int)) (b := (b:Int)) (by omega) (by omega) (by omega)
            rw [hX, hY, ← HOD.out] at l1 l2
            have HL1 := Lib.hid l1; have HL2 := Lib.hid l2
            clear htk hX hY l1 l2 HX HY
            obtain ⟨c0, c1, f0, f1, l0⟩ := box2 HS.out.box
            by_cases hXY : 0 < X ∧ 0 < Y
            · obtain ⟨x1, y1⟩ := hXY
              obtain ⟨i0, hlk, hli⟩ := HL1.out ⟨x1, y1⟩
              have HLK := Lib.hid hlk
              have s1 : decide (0 < X) = true := decide_eq_true x1
              have s2 : decide (0 < Y) = true := decide_eq_true y1
              have s3 : decide ((0:Int) ≤ (i0:Int)) = true := decide_eq_true (by omega)
              have hil := (List.getElem?_eq_some_iff.1 hli).1
              have hiI : (i0:Int) < (O.length:Int) := by omega
              obtain ⟨va', vc', vb, vo, v1, _, _, v4, v5⟩ := HS.out.tri
              injection v1 with v1 v1m v1c
              have v6 := v1.trans (v4 (by omega))
              subst v6
              have d2 := (v5 i0 _ _ _ hli).2.2
              clear v1 v1m v1c v4 v5 hlk hli hil
              go_wp2_with fail
              refine (iGLk (N:Int) O (a:Int) (b:Int) _ _ HS.out.tri HGK.out).mono ?_
              rw [HLK.out]
              rintro e w6 ⟨rfl, hb⟩
              replace HS := Lib.hid (HS.out.below hb)
              replace d2 := cell_below hb d2 (cell_lt d2)
              clear hb c0 c1 f0 f1 l0
              obtain ⟨c0, c1, f0, f1, l0⟩ := box2 HS.out.box
              rcases Int.lt_trichotomy X Y with h | h | h
              · have hmx : max X Y = Y := by omega
                have h2 : X ≤ Y := by omega
                have hne : (Y != Y) = false := by simp
                rw [hmx] at d2
                go_wp2_with fail
                go_roundw
                case rel => exact ⟨trivial, b + 1, by omega, by omega, by go_num, HS.out⟩
                case measure => simp [intOf]; omega
              · subst h
                have hmx : max X X = X := by omega
                have hne : (X != X) = false := by simp
                rw [hmx] at d2
                go_wp2_with fail
                go_roundw
                case rel => exact ⟨trivial, b + 1, by omega, by omega, by go_num, HS.out⟩
                case measure => simp [intOf]; omega
              · have hmx : max X Y = X := by omega
                have h2 : Y ≤ X := by omega
                have hne : (X != X) = false := by simp
                rw [hmx] at d2
                go_wp2_with fail
                go_roundw
                case rel => exact ⟨trivial, b + 1, by omega, by omega, by go_num, HS.out⟩
                case measure => simp [intOf]; omega
            · have hlk := HL2.out hXY
              have HLK := Lib.hid hlk
              clear hlk
              by_cases x1 : 0 < X
              · have s1 : decide (0 < X) = true := decide_eq_true x1
                have s2 : decide (0 < Y) = false := decide_eq_false (fun h => hXY ⟨x1, h⟩)
                clear hXY
                go_wp2_with fail
                refine (iGLk (N:Int) O (a:Int) (b:Int) _ _ HS.out.tri HGK.out).mono ?_
                rw [HLK.out]
                rintro e w6 ⟨rfl, hb⟩
                replace HS := Lib.hid (HS.out.below hb)
                clear hb c0 c1 f0 f1 l0
                go_wp2_with fail
                go_roundw
                case rel => exact ⟨trivial, b + 1, by omega, by omega, by go_num, HS.out⟩
                case measure => simp [intOf]; omega
              · have s1 : decide (0 < X) = false := decide_eq_false x1
                clear hXY
                go_wp2_with fail
                refine (iGLk (N:Int) O (a:Int) (b:Int) _ _ HS.out.tri HGK.out).mono ?_
                rw [HLK.out]
                rintro e w6 ⟨rfl, hb⟩
                replace HS := Lib.hid (HS.out.below hb)
                clear hb c0 c1 f0 f1 l0
                go_wp2_with fail
                go_roundw
                case rel => exact ⟨trivial, b + 1, by omega, by omega, by go_num, HS.out⟩
                case measure => simp [intOf]; omega
theorem own : ownKnob Try.prog.godebug = none := by kernel_rfl
theorem laidOut : laidOutB Try.prog = true := by kernel_rfl
set_option maxRecDepth 100000 in
theorem lifted (os : Os) (started : os.Started) (H : Type) (enc : TypeId × Value → H) :
    ReturnsInHanded {} Try.checked os 4 .any (Rows.fnDbGraphSpec.pre6 enc Try.prog Try.f4 Rows.fnDbGraphRow.domain false) (Rows.fnDbGraphSpec.post enc Try.prog Try.f4 false true false false) := by
  refine returnsInHanded_of_change (C := Try.checked) own started (by kernel_rfl) Try.func4
    (ChangeSpec.witness6 (enc := enc) (C := Try.checked) false ⟨#[], #[.slice none 0 0], []⟩ 8 (by kernel_rfl) (by kernel_rfl) (by kernel_rfl) (by kernel_rfl)) ?_
  intro W base args ds gs before hval0 hW hcnd _
  have hval : ∀ (j : Nat) t v, Try.f4.params[j]? = some t → args[j]? = some v → Value.okWide Try.prog W .any base t v := hval0
  have hW' := hW
  obtain ⟨p, q, hA0, hV, rfl, hfz, hnd⟩ := hW
  have hA : DataW.TrodAll enc Try.prog W 0 (fun _ => true) true Try.f4.params.toList args.toList ds p := hA0
  rw [Try.params4] at hA hval
  obtain ⟨v0, vs0, d0, ds0, p0, q0, hargs, rfl, rfl, h0, r0⟩ := trodAll_cons hA
  obtain ⟨rfl, rfl, rfl⟩ := trodAll_nil r0
  obtain rfl : args = #[v0] := by cases args; simp_all
  obtain ⟨rfl, rfl⟩ := trodVars_none hV
  have k0 := h0
  have lt0 : ∀ x ∈ p0, x.block < W.heap.size := by obtain ⟨m, hm⟩ := k0; exact DataW.trod_lt m _ _ _ hm
  have w0 : CodeAt W v0 := codeAt_of_trod (T := 36) (E := 5) Try.underlying36 Try.underlying5 (by kernel_rfl) (hval 0 36 v0 rfl rfl) h0
  clear hA0 hval0
  refine (walk v0 W w0).mono fun e W' ⟨he, bel⟩ => ?_
  subst he
  exact ⟨_, rfl, _, _, _, [], _, [], hW', trodAll_mk1 (shut_bool Try.underlying4 _), (trodAll_cons_mk (Below.trod laidOut (by kernel_rfl) (of_decide_eq_true (by kernel_rfl)) k0 bel lt0) trodAll_mk0), rfl, bel.frame _, fun h => by cases h⟩
theorem over : Rows.fnDbGraphRow.holds Try.pinned (OpenSpec.ofChange Rows.fnDbGraphSpec) :=
  OpenClaim.holds_of_wide 4 Try.f4 rfl rfl rfl rfl rfl rfl rfl ⟨rfl, rfl, rfl, rfl, rfl⟩ rfl rfl rfl rfl rfl (by kernel_rfl) Try.func4 (by kernel_rfl)
    (of_decide_eq_true (by kernel_rfl)) (by unfold Func.isWrapper; first | (rw [if_pos (by decide +kernel)]; kernel_rfl) | (rw [if_neg (by decide +kernel)]; exact ⟨rfl, rfl⟩))
    (fun os started H enc _ => lifted os started H enc)
end Go.Proofs.Ytnnkdoomjkccgaa.lawFnDbGraph
namespace Go.Proofs.Ytnnkdoomjkccgaa
set_option linter.unusedSimpArgs false
set_option linter.unusedVariables false
/-- The statement. -/
theorem FnDbGraph_proved : Rows.FnDbGraphSaid := lawFnDbGraph.over
#print axioms FnDbGraph_proved
end Go.Proofs.Ytnnkdoomjkccgaa
