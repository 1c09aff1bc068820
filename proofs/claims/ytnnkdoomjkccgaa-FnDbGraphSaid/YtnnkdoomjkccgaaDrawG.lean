/- The draw of a graph: l91Graph: some graph of few links in new memory. -/
import Derived.Test.YtnnkdoomjkccgaaPick
import Derived.Test.YtnnkdoomjkccgaaGLink
import Derived.Deep.RegionHeld3
import Derived.Deep.RegionLaw
import Derived.Deep.AppendLies
import Derived.OwnWalk
import Derived.Deep.DeepCutAuto
namespace Go.Proofs.Ytnnkdoomjkccgaa
set_option linter.unusedSimpArgs false
set_option linter.unusedVariables false
open Go.RowKit

def DrawGPost (w : World) (B : Nat) (m : Int) (e : Ending) (w' : World) : Prop :=
  ∃ n u ls, e = .returned (.agg #[.int .i64 n, u]) ∧ ls.length ≤ 14 ∧ OwnR w' w.heap.size w'.heap.size 46 3 u ls.length (cells3 ls) ∧ RdLe w' B (m + 400) ∧ w.grownBy w' (some B) ∧ 0 ≤ n ∧ n ≤ 8
theorem only_grownG {a b c : World} {g : Nat} {row : Option Nat} (h : a.grownBy b (some g)) (k : b.grownBy c row) (hr : ∀ j, row = some j → a.heap.size ≤ j) : a.grownBy c (some g) :=
  ⟨k.os.trans h.os, k.tape.trans h.tape, k.output.trans h.output, Nat.le_trans h.size k.size, fun i hi hne => (k.block i (Nat.lt_of_lt_of_le hi h.size) (fun e => by have := hr i e.symm; omega)).trans (h.block i hi hne)⟩
/-- What holds in the loops of l91Graph. -/
def GLoop (w : World) (B P : Nat) (m : Int) (N : Nat) (wr : World) : Prop :=
  ∃ hv ls, ls.length ≤ 14 ∧ RdLe wr B m ∧ wr.ownsRow P 46 3 hv ls.length (cells3 ls) ∧ Box wr w.heap.size #[.int .i64 0, .slice none 0 0] 26 ∧ Box wr (P + 1) #[.int .i64 (N:Int), hv] 26 ∧ w.grownBy wr (some B)
theorem GLoop.mono {w : World} {B P : Nat} {m m' : Int} {N : Nat} {wr : World} (h : GLoop w B P m N wr) (hm : m ≤ m') : GLoop w B P m' N wr := by
  obtain ⟨hv, ls, h1, h2, h3⟩ := h
  exact ⟨hv, ls, h1, rdLe_mono h2 hm, h3⟩
set_option maxRecDepth 100000 in
set_option maxHeartbeats 4000000 in
theorem drawG (B : Nat) (m : Int) (w : World) (h : RdLe w B m) (hm : m < 1000000000000) : Calls Try.prog 49 #[.pointer (some ⟨B, 0, none⟩)] w (DrawGPost w B m) := by
  have hB := rdLe_lt h
  have hn1 : w.heap.size ≠ B := by omega
  have hn2 : ∀ k, w.heap.size + k ≠ B := fun k => by omega
  obtain ⟨dS, dA, dD, dZ⟩ := drewN_out
  have dE : ∀ W : World, W.drew = W.drewN 1 := fun _ => rfl
  go_enter Try.func49, Try.ntmps49
  go_wp2_with fail
  apply pick_op
  · (with_reducible (repeat (first | assumption | apply rdLe_alloc | apply rdLe_drewN | apply rdLe_drew | apply rdLe_set | (apply rdLe_setCell; rotate_left; (focus (first | omega | (simp; done) | (simp; omega)))))))
  · exact by omega
  intro x w1 x_0 x_1 w1_R w1_G
  have R1 := Lib.hid ((box_new w #[.int .i64 0, .slice none 0 0] 26).only w1_G (by omega))
  have G1 := Lib.hid (only_trans (only_alloc (only_refl w (some B)) _) w1_G)
  have hBl := rdLe_lt w1_R
  have hs1 := w1_G.size
  rw [World.size_alloc] at hs1
  clear w1_G
  have wx : IntKind.i64.wrap (2 + x) = 2 + x := IntWalk.i64_in _ (by omega)
  go_wp2_with fail
  obtain ⟨P, hP⟩ : ∃ P, w1.heap.size = P := ⟨_, rfl⟩
  have O2 : ((w1.alloc (.cells #[] 46)).alloc (.cells #[.int .i64 (2 + x), .slice (some ⟨w1.heap.size, 0, none⟩) 0 0] 26)).ownsRow w1.heap.size 46 3 (.slice (some ⟨w1.heap.size, 0, none⟩) 0 0) 0 [] := World.ownsRow.alloc (own_new rfl (Nat.le_refl _)) _
  have A2 : Box ((w1.alloc (.cells #[] 46)).alloc (.cells #[.int .i64 (2 + x), .slice (some ⟨w1.heap.size, 0, none⟩) 0 0] 26)) (w1.heap.size + 1) #[.int .i64 (2 + x), .slice (some ⟨w1.heap.size, 0, none⟩) 0 0] 26 := box_at _ _ _ (by simp)
  have R2 := (R1.out.alloc (.cells #[] 46)).alloc (.cells #[.int .i64 (2 + x), .slice (some ⟨w1.heap.size, 0, none⟩) 0 0] 26)
  have G2 := only_alloc (only_alloc G1.out (.cells #[] 46)) (.cells #[.int .i64 (2 + x), .slice (some ⟨w1.heap.size, 0, none⟩) 0 0] 26)
  have D2 : RdLe ((w1.alloc (.cells #[] 46)).alloc (.cells #[.int .i64 (2 + x), .slice (some ⟨w1.heap.size, 0, none⟩) 0 0] 26)) B (m + 1) := rdLe_alloc (rdLe_alloc w1_R _) _
  rw [hP] at O2 A2 R2 G2 D2 hBl hs1 ⊢
  obtain ⟨X, hX⟩ : ∃ X, (w1.alloc (.cells #[] 46)).alloc (.cells #[.int .i64 (2 + x), .slice (some ⟨P, 0, none⟩) 0 0] 26) = X := ⟨_, rfl⟩
  rw [hX] at O2 A2 R2 G2 D2 ⊢
  obtain ⟨nn, hnn⟩ : ∃ nn, 2 + x = nn := ⟨_, rfl⟩
  have hnn2 : 2 ≤ nn := by omega
  have hnn8 : nn ≤ 8 := by omega
  rw [hnn] at A2 ⊢
  clear hX hP R1 G1 w1_R wx hnn x_0 x_1
  apply pick_op
  · (with_reducible (repeat (first | assumption | apply rdLe_alloc | apply rdLe_drewN | apply rdLe_drew | apply rdLe_set | (apply rdLe_setCell; rotate_left; (focus (first | omega | (simp; done) | (simp; omega)))))))
  · exact by omega
  intro y w2 y_0 y_1 w2_R w2_G
  have R3 := R2.only w2_G (by omega)
  have A3 := A2.only w2_G (by omega)
  have O3 := own_only O2 w2_G (by omega)
  have G3 := only_trans G2 w2_G
  have D3 := w2_R
  clear w2_G w2_R R2 A2 O2 G2 D2
  obtain ⟨a0, a1, f0, f1, hA3⟩ := box2 A3
  obtain ⟨c0, c1, h0, h1, hR3⟩ := box2 R3
  have hBl2 := rdLe_lt D3
  have hpB : ¬ P + 1 = B := by omega
  have HA := Lib.hid A3; have HR := Lib.hid R3; have HO := Lib.hid O3; have HG := Lib.hid G3; have HD := Lib.hid D3
  clear A3 R3 O3 G3 D3
  go_upto_if 15 with fail
  go_cut [] (fun wc => ∃ N : Nat, 2 ≤ N ∧ N ≤ 8 ∧ GLoop w B P (m + 3) N wc)
  case first =>
    rcases Int.lt_or_le 0 y with hy | hy
    · have t0 : decide (0 < y) = true := by simpa using hy
      go_wp2_with fail
      have hRd := HD.out
      apply pick_op
      · (with_reducible (repeat (first | assumption | apply rdLe_alloc | apply rdLe_drewN | apply rdLe_drew | apply rdLe_set | (apply rdLe_setCell; rotate_left; (focus (first | omega | (simp; done) | (simp; omega)))))))
      · exact by omega
      intro z w3 z_0 z_1 w3_R w3_G
      have R4 := HR.out.only w3_G (by omega)
      have A4 := HA.out.only w3_G (by omega)
      have O4 := own_only HO.out w3_G (by omega)
      have G4 := only_trans HG.out w3_G
      have D4 := w3_R
      have hs4 := w3_G.size
      clear w3_G w3_R a0 a1 f0 f1 c0 c1 h0 h1 hR3
      obtain ⟨a0, a1, f0, f1, hA4⟩ := box2 A4
      have wz : IntKind.i64.wrap (4 + z) = 4 + z := IntWalk.i64_in _ (by omega)
      go_wp2_with fail
      go_meet
      have A5 := box2_set0 A4 (.int .i64 (4 + z))
      have R5 := R4.setOther (a := ⟨P + 1, 0, none⟩) (by simp; omega) (.int .i64 (4 + z))
      have O5 := own_setOther O4 (a := ⟨P + 1, 0, none⟩) (by simp [Value.ownBlock]) (.int .i64 (4 + z))
      have G5 := only_setCell G4 (p := ⟨P + 1, 0, none⟩) (.inr (by simp; omega)) (.int .i64 (4 + z))
      have D5 := rdLe_mono (rdLe_setCell D4 (a := ⟨P + 1, 0, none⟩) (by simp; omega) (.int .i64 (4 + z))) (show m + 1 + 1 + 1 ≤ m + 3 by omega)
      obtain ⟨N, hN⟩ : ∃ N : Nat, 4 + z = (N:Int) := ⟨(4 + z).toNat, by omega⟩
      rw [hN] at A5 R5 O5 G5 D5 ⊢
      exact ⟨N, by omega, by omega, _, [], by simp, D5, O5, R5, A5, G5⟩
    · have t0 : decide (0 < y) = false := by simp; omega
      go_wp2_with fail
      go_meet
      obtain ⟨N, hN⟩ : ∃ N : Nat, nn = (N:Int) := ⟨nn.toNat, by omega⟩
      have hA := HA.out
      rw [hN] at hA
      exact ⟨N, by omega, by omega, _, [], by simp, rdLe_mono HD.out (by omega), HO.out, HR.out, hA, HG.out⟩
  case rest =>
    obtain ⟨N, hN2, hN8, hGL⟩ := hcut
    clear HA HR HO HG HD a0 a1 f0 f1 c0 c1 h0 h1 hR3
    obtain ⟨hv, ls, hls, hRd, hO, hR, hA, hG⟩ := hGL
    have hBc := rdLe_lt hRd
    obtain ⟨hva, hvc, rfl⟩ := own_slice hO
    go_wp2_with fail
    apply pick_op
    · (with_reducible (repeat (first | assumption | apply rdLe_alloc | apply rdLe_drewN | apply rdLe_drew | apply rdLe_set | (apply rdLe_setCell; rotate_left; (focus (first | omega | (simp; done) | (simp; omega)))))))
    · exact by omega
    intro d w5 d_0 d_1 w5_R w5_G
    have HL : Hid (GLoop w B P (m + 4) N w5) := Lib.hid ⟨_, ls, hls, rdLe_mono w5_R (by omega), own_only hO w5_G (by omega), hR.only w5_G (by omega), hA.only w5_G (by omega), only_trans hG w5_G⟩
    have a0 := (box2 (hA.only w5_G (by omega))).1
    have wd : IntKind.i64.wrap (1 + d) = 1 + d := IntWalk.i64_in _ (by omega)
    clear w5_G w5_R hRd hO hR hA hG hBc
    go_wp2_with fail
    clear a0
    go_loopw [5] (fun i wr => ∃ a : Nat, a ≤ N ∧ i = .int .i64 a ∧ GLoop w B P (m + 4 + 48 * a) N wr) (fun i _ => N - (intOf i).toNat)
    case atStart => exact ⟨0, by omega, rfl, HL.out.mono (by omega)⟩
    case round =>
      obtain ⟨a, ha, rfl, hGL⟩ := hrel
      clear HL
      obtain ⟨hv, ls, hls, hRd, hO, hR, hA, hG⟩ := hGL
      have HGL : Hid (GLoop w B P (m + 4 + 48 * a) N wr) := Lib.hid ⟨hv, ls, hls, hRd, hO, hR, hA, hG⟩
      obtain ⟨a0, a1, f0, f1, hA6⟩ := box2 hA
      by_cases haN : a < N
      · have t1 : decide ((a:Int) < (N:Int)) = true := by simp; omega
        have wa : IntKind.i64.wrap ((a:Int) + 1) = (a:Int) + 1 := IntWalk.i64_in _ (by omega)
        clear hRd hO hR hA hG
        go_wp2_with fail
        clear a0 a1 f0 f1 hA6
        go_loopw [6] (fun j wr => True ∧ ∃ b : Nat, a + 1 ≤ b ∧ b ≤ N ∧ j = .int .i64 b ∧ GLoop w B P (m + 4 + 48 * a + 6 * (b - a - 1 : Nat)) N wr) (fun j _ => N - (intOf j).toNat)
        case atStart => exact ⟨trivial, a + 1, by omega, by omega, by go_num, HGL.out.mono (by omega)⟩
        case round =>
          obtain ⟨_, b, hb1, hb2, rfl, hGL⟩ := hrel
          clear HGL
          obtain ⟨hv, ls, hls, hRd, hO, hR, hA, hG⟩ := hGL
          obtain ⟨a0, a1, f0, f1, hA6⟩ := box2 hA
          obtain ⟨hva, hvc, rfl⟩ := own_slice hO
          have HRd := Lib.hid hRd; have HO := Lib.hid hO; have HR := Lib.hid hR; have HA := Lib.hid hA; have HG := Lib.hid hG
          clear hRd hO hR hA hG
          by_cases hbN : b < N
          · have t2 : decide ((b:Int) < (N:Int)) = true := by simp; omega
            have wN : IntKind.i64.wrap ((N:Int) - 1) = (N:Int) - 1 := IntWalk.i64_in _ (by omega)
            go_upto_region 11 with fail
            go_cut [7] (fun s7 wx => ∃ nr, s7 = .bool nr ∧ wr = wx)
            case first =>
              by_cases e1 : b = a + 1
              · have n1 : ((b:Int) == (a:Int) + 1) = true := by simp; omega
                go_wp2_with fail
                go_meet
                exact ⟨_, rfl, rfl⟩
              · have n1 : ((b:Int) == (a:Int) + 1) = false := by simp; omega
                rcases Bool.eq_false_or_eq_true ((a:Int) == 0) with n2 | n2
                · go_wp2_with fail
                  go_meet
                  exact ⟨_, rfl, rfl⟩
                · go_wp2_with fail
                  go_meet
                  exact ⟨_, rfl, rfl⟩
            case rest =>
              obtain ⟨nr, rfl, rfl⟩ := hcut
              go_upto_region 12 with fail
              go_cut [69] (fun s69 wx => ∃ q, s69 = .bool q ∧ (q = true → ls.length < 14) ∧ RdLe wx B (m + 4 + 48 * a + 6 * (b - a - 1 : Nat) + 2) ∧ wx.ownsRow P 46 3 (.slice hva ls.length hvc) ls.length (cells3 ls) ∧ Box wx w.heap.size #[.int .i64 0, .slice none 0 0] 26 ∧ Box wx (P + 1) #[.int .i64 (N:Int), .slice hva ls.length hvc] 26 ∧ w.grownBy wx (some B))
              case first =>
                by_cases hl : ls.length < 14
                · have t3 : decide ((ls.length:Int) < 14) = true := by simp; omega
                  cases nr with
                  | true =>
                    go_wp2_with fail
                    have hRd := HRd.out
                    apply pick_op
                    · (with_reducible (repeat (first | assumption | apply rdLe_alloc | apply rdLe_drewN | apply rdLe_drew | apply rdLe_set | (apply rdLe_setCell; rotate_left; (focus (first | omega | (simp; done) | (simp; omega)))))))
                    · exact by omega
                    intro z1 w6 z1_0 z1_1 w6_R w6_G
                    replace HRd := Lib.hid w6_R
                    replace HO := Lib.hid (own_only HO.out w6_G (by omega))
                    replace HR := Lib.hid (HR.out.only w6_G (by omega))
                    replace HA := Lib.hid (HA.out.only w6_G (by omega))
                    replace HG := Lib.hid (only_trans HG.out w6_G)
                    clear w6_G w6_R hRd a0 a1 f0 f1 hA6
                    obtain ⟨a0, a1, f0, f1, hA6⟩ := box2 HA.out
                    rcases Int.lt_or_le 0 z1 with hz1 | hz1
                    · have q1 : decide (0 < z1) = true := by simpa using hz1
                      go_wp2_with fail
                      go_meet
                      exact ⟨_, rfl, (fun _ => hl), rdLe_mono HRd.out (by omega), HO.out, HR.out, HA.out, HG.out⟩
                    · have q1 : decide (0 < z1) = false := by simp; omega
                      go_wp2_with fail
                      have hRd := HRd.out
                      apply pick_op
                      · (with_reducible (repeat (first | assumption | apply rdLe_alloc | apply rdLe_drewN | apply rdLe_drew | apply rdLe_set | (apply rdLe_setCell; rotate_left; (focus (first | omega | (simp; done) | (simp; omega)))))))
                      · exact by omega
                      intro z2 w7 z2_0 z2_1 w7_R w7_G
                      replace HRd := Lib.hid w7_R
                      replace HO := Lib.hid (own_only HO.out w7_G (by omega))
                      replace HR := Lib.hid (HR.out.only w7_G (by omega))
                      replace HA := Lib.hid (HA.out.only w7_G (by omega))
                      replace HG := Lib.hid (only_trans HG.out w7_G)
                      clear w7_G w7_R hRd a0 a1 f0 f1 hA6
                      obtain ⟨a0, a1, f0, f1, hA6⟩ := box2 HA.out
                      go_wp2_with fail
                      go_meet
                      exact ⟨_, rfl, (fun _ => hl), rdLe_mono HRd.out (by omega), HO.out, HR.out, HA.out, HG.out⟩
                  | false =>
                    go_wp2_with fail
                    have hRd := HRd.out
                    apply pick_op
                    · (with_reducible (repeat (first | assumption | apply rdLe_alloc | apply rdLe_drewN | apply rdLe_drew | apply rdLe_set | (apply rdLe_setCell; rotate_left; (focus (first | omega | (simp; done) | (simp; omega)))))))
                    · exact by omega
                    intro z2 w7 z2_0 z2_1 w7_R w7_G
                    replace HRd := Lib.hid w7_R
                    replace HO := Lib.hid (own_only HO.out w7_G (by omega))
                    replace HR := Lib.hid (HR.out.only w7_G (by omega))
                    replace HA := Lib.hid (HA.out.only w7_G (by omega))
                    replace HG := Lib.hid (only_trans HG.out w7_G)
                    clear w7_G w7_R hRd a0 a1 f0 f1 hA6
                    obtain ⟨a0, a1, f0, f1, hA6⟩ := box2 HA.out
                    go_wp2_with fail
                    go_meet
                    exact ⟨_, rfl, (fun _ => hl), rdLe_mono HRd.out (by omega), HO.out, HR.out, HA.out, HG.out⟩
                · have t3 : decide ((ls.length:Int) < 14) = false := by simp; omega
                  cases nr with
                  | true =>
                    go_wp2_with fail
                    go_meet
                    exact ⟨_, rfl, (fun h => by cases h), rdLe_mono HRd.out (by omega), HO.out, HR.out, HA.out, HG.out⟩
                  | false =>
                    go_wp2_with fail
                    go_meet
                    exact ⟨_, rfl, (fun h => by cases h), rdLe_mono HRd.out (by omega), HO.out, HR.out, HA.out, HG.out⟩
              case rest =>
                obtain ⟨q, rfl, hq, hRd, hO, hR, hA, hG⟩ := hcut
                clear HRd HO HR HA HG a0 a1 f0 f1 hA6
                have HRd := Lib.hid hRd; have HO := Lib.hid hO; have HR := Lib.hid hR; have HA := Lib.hid hA; have HG := Lib.hid hG
                obtain ⟨a0, a1, f0, f1, hA6⟩ := box2 hA
                clear hRd hO hR hA hG
                cases q with
                | false =>
                  go_wp2_with fail
                  go_roundw
                  case rel =>
                    exact ⟨trivial, b + 1, by omega, by omega, by go_num, GLoop.mono ⟨.slice hva ls.length hvc, ls, hls, HRd.out, HO.out, HR.out, HA.out, HG.out⟩ (by omega)⟩
                  case measure => simp [intOf]; omega
                | true =>
                  have hl := hq rfl
                  go_wp2_with fail
                  refine wp_region_noPanic ?_
                  refine wp_region_held_drew (S := fun _ => True) (by kernel_rfl) trivial (fun hHeld => ?_)
                  replace HRd := Lib.hid (rdLe_drew HRd.out)
                  replace HO := Lib.hid (own_drew HO.out)
                  replace HR := Lib.hid HR.out.drew
                  replace HA := Lib.hid HA.out.drew
                  replace HG := Lib.hid (only_drew HG.out)
                  clear a0 a1 f0 f1 hA6
                  obtain ⟨X, hX⟩ : ∃ X, World.drew wc = X := ⟨_, rfl⟩
                  rw [hX] at HRd HO HR HA HG ⊢
                  clear hX
                  obtain ⟨a0, a1, f0, f1, hA6⟩ := box2 HA.out
                  refine wpAnyH_take (i := 0) (oi := _) (v := ?_) rfl (by kernel_rfl) (by kernel_rfl) (by kernel_rfl) (fun _ _ _ h => h) (Or.inl ⟨by rfl, ?_⟩) (by assumption) ?_
                  rotate_left
                  focus (intro w hSw; (try dsimp only at hSw); go_simp; try (with_reducible rfl))
                  try simp only [List.getElem_toArray, List.getElem_cons_zero, List.getElem_cons_succ, Act.put, List.setIfInBounds_toArray, List.set_cons_zero, List.set_cons_succ]
                  refine wpAnyH_take (i := 2) (oi := _) (v := ?_) rfl (by kernel_rfl) (by kernel_rfl) (by kernel_rfl) (fun _ _ _ h => h) (Or.inl ⟨by rfl, ?_⟩) (by assumption) ?_
                  rotate_left
                  focus (intro w hSw; (try dsimp only at hSw); go_simp; try (with_reducible rfl))
                  try simp only [List.getElem_toArray, List.getElem_cons_zero, List.getElem_cons_succ, Act.put, List.setIfInBounds_toArray, List.set_cons_zero, List.set_cons_succ]
                  refine wpAnyH_take (i := 3) (oi := _) (v := ?_) rfl (by kernel_rfl) (by kernel_rfl) (by kernel_rfl) (fun _ _ _ h => h) (Or.inl ⟨by rfl, ?_⟩) (by assumption) ?_
                  rotate_left
                  focus (intro w hSw; (try dsimp only at hSw); go_simp; try (with_reducible rfl))
                  try simp only [List.getElem_toArray, List.getElem_cons_zero, List.getElem_cons_succ, Act.put, List.setIfInBounds_toArray, List.set_cons_zero, List.set_cons_succ]
                  refine wpAnyH_take (i := 4) (oi := _) (v := ?_) rfl (by kernel_rfl) (by kernel_rfl) (by kernel_rfl) (fun _ _ _ h => h) (Or.inl ⟨by rfl, ?_⟩) (by assumption) ?_
                  rotate_left
                  focus (intro w hSw; (try dsimp only at hSw); go_simp; try (with_reducible rfl))
                  try simp only [List.getElem_toArray, List.getElem_cons_zero, List.getElem_cons_succ, Act.put, List.setIfInBounds_toArray, List.set_cons_zero, List.set_cons_succ]
                  refine wpAnyH_take (i := 7) (oi := _) (v := ?_) rfl (by kernel_rfl) (by kernel_rfl) (by kernel_rfl) (fun _ _ _ h => h) (Or.inl ⟨by rfl, ?_⟩) (by assumption) ?_
                  rotate_left
                  focus (intro w hSw; (try dsimp only at hSw); go_simp; try (with_reducible rfl))
                  try simp only [List.getElem_toArray, List.getElem_cons_zero, List.getElem_cons_succ, Act.put, List.setIfInBounds_toArray, List.set_cons_zero, List.set_cons_succ]
                  refine wpAnyH_take (i := 10) (oi := _) (v := ?_) rfl (by kernel_rfl) (by kernel_rfl) (by kernel_rfl) (fun _ _ _ h => h) (Or.inl ⟨by rfl, ?_⟩) (by assumption) ?_
                  rotate_left
                  focus (intro w hSw; (try dsimp only at hSw); go_simp; try (with_reducible rfl))
                  try simp only [List.getElem_toArray, List.getElem_cons_zero, List.getElem_cons_succ, Act.put, List.setIfInBounds_toArray, List.set_cons_zero, List.set_cons_succ]
                  refine wpAnyH_ready (rs := [1, 5]) (by kernel_rfl) (by simp) ?_
                  refine AllReadyH.cons (o := _) rfl (fun K hK => ?_) (AllReadyH.cons (o := _) rfl (fun K hK => ?_) AllReadyH.nil)
                  go_simp
                  refine hK.out _ _ trivial (fun hHeld2 => ?_)
                  clear hK K hHeld
                  have hHeld := hHeld2
                  clear hHeld2
                  try simp only [List.getElem_toArray, List.getElem_cons_zero, List.getElem_cons_succ, Act.put, List.setIfInBounds_toArray, List.set_cons_zero, List.set_cons_succ]
                  refine wpAnyH_ready (rs := [5]) (by kernel_rfl) (by simp) ?_
                  refine AllReadyH.cons (o := _) rfl (fun K hK => ?_) AllReadyH.nil
                  go_simp
                  go_at_call 50
                  apply pick_op
                  · exact HRd.out
                  · exact by omega
                  intro v1 X2 g0 g1 hR2 hG2
                  clear g0 g1
                  replace HRd := Lib.hid hR2
                  replace HO := Lib.hid (own_only HO.out hG2 (by omega))
                  replace HR := Lib.hid (HR.out.only hG2 (by omega))
                  replace HA := Lib.hid (HA.out.only hG2 (by omega))
                  replace HG := Lib.hid (only_trans HG.out hG2)
                  clear hG2 hR2 a0 a1 f0 f1 hA6
                  obtain ⟨a0, a1, f0, f1, hA6⟩ := box2 HA.out
                  refine hK.out _ _ trivial (fun hHeld2 => ?_)
                  clear hK K hHeld
                  have hHeld := hHeld2
                  clear hHeld2
                  try simp only [List.getElem_toArray, List.getElem_cons_zero, List.getElem_cons_succ, Act.put, List.setIfInBounds_toArray, List.set_cons_zero, List.set_cons_succ]
                  clear X
                  obtain ⟨X, rfl⟩ : ∃ X, X = X2 := ⟨_, rfl⟩
                  refine wpAnyH_take (i := 6) (oi := _) (v := ?_) rfl (by kernel_rfl) (by kernel_rfl) (by kernel_rfl) (fun _ _ _ h => h) (Or.inl ⟨by rfl, ?_⟩) (by assumption) ?_
                  rotate_left
                  focus (intro w hSw; (try dsimp only at hSw); go_simp; try (with_reducible rfl))
                  try simp only [List.getElem_toArray, List.getElem_cons_zero, List.getElem_cons_succ, Act.put, List.setIfInBounds_toArray, List.set_cons_zero, List.set_cons_succ]
                  refine wpAnyH_ready (rs := [8]) (by kernel_rfl) (by simp) ?_
                  refine AllReadyH.cons (o := _) rfl (fun K hK => ?_) AllReadyH.nil
                  go_simp
                  go_at_call 50
                  apply pick_op
                  · exact HRd.out
                  · exact by omega
                  intro v2 X2 g0 g1 hR2 hG2
                  clear g0 g1
                  replace HRd := Lib.hid hR2
                  replace HO := Lib.hid (own_only HO.out hG2 (by omega))
                  replace HR := Lib.hid (HR.out.only hG2 (by omega))
                  replace HA := Lib.hid (HA.out.only hG2 (by omega))
                  replace HG := Lib.hid (only_trans HG.out hG2)
                  clear hG2 hR2 a0 a1 f0 f1 hA6
                  obtain ⟨a0, a1, f0, f1, hA6⟩ := box2 HA.out
                  refine hK.out _ _ trivial (fun hHeld2 => ?_)
                  clear hK K hHeld
                  have hHeld := hHeld2
                  clear hHeld2
                  try simp only [List.getElem_toArray, List.getElem_cons_zero, List.getElem_cons_succ, Act.put, List.setIfInBounds_toArray, List.set_cons_zero, List.set_cons_succ]
                  clear X
                  obtain ⟨X, rfl⟩ : ∃ X, X = X2 := ⟨_, rfl⟩
                  refine wpAnyH_take (i := 9) (oi := _) (v := ?_) rfl (by kernel_rfl) (by kernel_rfl) (by kernel_rfl) (fun _ _ _ h => h) (Or.inl ⟨by rfl, ?_⟩) (by assumption) ?_
                  rotate_left
                  focus (intro w hSw; (try dsimp only at hSw); go_simp; try (with_reducible rfl))
                  try simp only [List.getElem_toArray, List.getElem_cons_zero, List.getElem_cons_succ, Act.put, List.setIfInBounds_toArray, List.set_cons_zero, List.set_cons_succ]
                  refine wpAnyH_ready (rs := [11]) (by kernel_rfl) (by simp) ?_
                  refine AllReadyH.cons (o := _) rfl (fun K hK => ?_) AllReadyH.nil
                  go_simp
                  go_at_call 50
                  apply pick_op
                  · exact HRd.out
                  · exact by omega
                  intro v3 X2 g0 g1 hR2 hG2
                  clear g0 g1
                  replace HRd := Lib.hid hR2
                  replace HO := Lib.hid (own_only HO.out hG2 (by omega))
                  replace HR := Lib.hid (HR.out.only hG2 (by omega))
                  replace HA := Lib.hid (HA.out.only hG2 (by omega))
                  replace HG := Lib.hid (only_trans HG.out hG2)
                  clear hG2 hR2 a0 a1 f0 f1 hA6
                  obtain ⟨a0, a1, f0, f1, hA6⟩ := box2 HA.out
                  refine hK.out _ _ trivial (fun hHeld2 => ?_)
                  clear hK K hHeld
                  have hHeld := hHeld2
                  clear hHeld2
                  try simp only [List.getElem_toArray, List.getElem_cons_zero, List.getElem_cons_succ, Act.put, List.setIfInBounds_toArray, List.set_cons_zero, List.set_cons_succ]
                  clear X
                  obtain ⟨X, rfl⟩ : ∃ X, X = X2 := ⟨_, rfl⟩
                  refine wpAnyH_take (i := 12) (oi := _) (v := ?_) rfl (by kernel_rfl) (by kernel_rfl) (by kernel_rfl) (fun _ _ _ h => h) (Or.inl ⟨by rfl, ?_⟩) (by assumption) ?_
                  rotate_left
                  focus (intro w hSw; (try dsimp only at hSw); go_simp; try (with_reducible rfl))
                  try simp only [List.getElem_toArray, List.getElem_cons_zero, List.getElem_cons_succ, Act.put, List.setIfInBounds_toArray, List.set_cons_zero, List.set_cons_succ]
                  refine wpAnyH_take (i := 13) (oi := _) (v := ?_) rfl (by kernel_rfl) (by kernel_rfl) (by kernel_rfl) (fun _ _ _ h => h) (Or.inl ⟨by rfl, ?_⟩) (by assumption) ?_
                  rotate_left
                  focus (intro w hSw; (try dsimp only at hSw); go_simp; try (with_reducible rfl))
                  try simp only [List.getElem_toArray, List.getElem_cons_zero, List.getElem_cons_succ, Act.put, List.setIfInBounds_toArray, List.set_cons_zero, List.set_cons_succ]
                  refine wpAnyH_take (i := 14) (oi := _) (v := ?_) rfl (by kernel_rfl) (by kernel_rfl) (by kernel_rfl) (fun _ _ _ h => h) (Or.inl ⟨by rfl, ?_⟩) (by assumption) ?_
                  rotate_left
                  focus (intro w hSw; (try dsimp only at hSw); go_simp; try (with_reducible rfl))
                  try simp only [List.getElem_toArray, List.getElem_cons_zero, List.getElem_cons_succ, Act.put, List.setIfInBounds_toArray, List.set_cons_zero, List.set_cons_succ]
                  refine wpAnyH_ready (rs := [15]) (by kernel_rfl) (by simp) ?_
                  refine AllReadyH.cons (o := _) rfl (fun K hK => ?_) AllReadyH.nil
                  go_simp
                  have hNB := box_new X #[.int .i64 (a:Int), .int .i64 (b:Int), .int .i64 (IntKind.i64.wrap (IntKind.i64.wrap (1 + v1) + IntKind.i64.wrap (IntKind.i64.wrap (v2.tdiv 3) * v3)))] 46
                  replace HRd := Lib.hid (rdLe_alloc HRd.out (.cells #[.int .i64 (a:Int), .int .i64 (b:Int), .int .i64 (IntKind.i64.wrap (IntKind.i64.wrap (1 + v1) + IntKind.i64.wrap (IntKind.i64.wrap (v2.tdiv 3) * v3)))] 46))
                  replace HO := Lib.hid (HO.out.alloc (.cells #[.int .i64 (a:Int), .int .i64 (b:Int), .int .i64 (IntKind.i64.wrap (IntKind.i64.wrap (1 + v1) + IntKind.i64.wrap (IntKind.i64.wrap (v2.tdiv 3) * v3)))] 46))
                  replace HR := Lib.hid (HR.out.alloc (.cells #[.int .i64 (a:Int), .int .i64 (b:Int), .int .i64 (IntKind.i64.wrap (IntKind.i64.wrap (1 + v1) + IntKind.i64.wrap (IntKind.i64.wrap (v2.tdiv 3) * v3)))] 46))
                  replace HA := Lib.hid (HA.out.alloc (.cells #[.int .i64 (a:Int), .int .i64 (b:Int), .int .i64 (IntKind.i64.wrap (IntKind.i64.wrap (1 + v1) + IntKind.i64.wrap (IntKind.i64.wrap (v2.tdiv 3) * v3)))] 46))
                  replace HG := Lib.hid (only_alloc HG.out (.cells #[.int .i64 (a:Int), .int .i64 (b:Int), .int .i64 (IntKind.i64.wrap (IntKind.i64.wrap (1 + v1) + IntKind.i64.wrap (IntKind.i64.wrap (v2.tdiv 3) * v3)))] 46))
                  obtain ⟨bk, hbk⟩ : ∃ bk, X.heap.size = bk := ⟨_, rfl⟩
                  obtain ⟨X2, hX2⟩ : ∃ X2, X.alloc (.cells #[.int .i64 (a:Int), .int .i64 (b:Int), .int .i64 (IntKind.i64.wrap (IntKind.i64.wrap (1 + v1) + IntKind.i64.wrap (IntKind.i64.wrap (v2.tdiv 3) * v3)))] 46) = X2 := ⟨_, rfl⟩
                  rw [hX2] at HRd HO HR HA HG hNB
                  rw [hbk] at hNB
                  have HNB := Lib.hid hNB
                  try rw [hX2]
                  try rw [hbk]
                  clear hX2 hbk hNB a0 a1 f0 f1 hA6
                  obtain ⟨a0, a1, f0, f1, hA6⟩ := box2 HA.out
                  refine hK.out _ _ trivial (fun hHeld2 => ?_)
                  clear hK K hHeld
                  have hHeld := hHeld2
                  clear hHeld2
                  try simp only [List.getElem_toArray, List.getElem_cons_zero, List.getElem_cons_succ, Act.put, List.setIfInBounds_toArray, List.set_cons_zero, List.set_cons_succ]
                  clear X
                  obtain ⟨X, rfl⟩ : ∃ X, X = X2 := ⟨_, rfl⟩
                  have F := And.intro HRd.out (And.intro HO.out (And.intro HR.out (And.intro HA.out (And.intro HG.out HNB.out))))
                  clear HRd HO HR HA HG HNB a0 a1 f0 f1 hA6
                  revert hHeld
                  revert F
                  revert X
                  revert bk
                  revert v3
                  revert v2
                  revert v1
                  refine ?KA1
                  rotate_left
                  go_simp
                  go_at_call 50
                  apply pick_op
                  · exact HRd.out
                  · exact by omega
                  intro v1 X2 g0 g1 hR2 hG2
                  clear g0 g1
                  replace HRd := Lib.hid hR2
                  replace HO := Lib.hid (own_only HO.out hG2 (by omega))
                  replace HR := Lib.hid (HR.out.only hG2 (by omega))
                  replace HA := Lib.hid (HA.out.only hG2 (by omega))
                  replace HG := Lib.hid (only_trans HG.out hG2)
                  clear hG2 hR2 a0 a1 f0 f1 hA6
                  obtain ⟨a0, a1, f0, f1, hA6⟩ := box2 HA.out
                  refine hK.out _ _ trivial (fun hHeld2 => ?_)
                  clear hK K hHeld
                  have hHeld := hHeld2
                  clear hHeld2
                  try simp only [List.getElem_toArray, List.getElem_cons_zero, List.getElem_cons_succ, Act.put, List.setIfInBounds_toArray, List.set_cons_zero, List.set_cons_succ]
                  clear X
                  obtain ⟨X, rfl⟩ : ∃ X, X = X2 := ⟨_, rfl⟩
                  refine wpAnyH_take (i := 6) (oi := _) (v := ?_) rfl (by kernel_rfl) (by kernel_rfl) (by kernel_rfl) (fun _ _ _ h => h) (Or.inl ⟨by rfl, ?_⟩) (by assumption) ?_
                  rotate_left
                  focus (intro w hSw; (try dsimp only at hSw); go_simp; try (with_reducible rfl))
                  try simp only [List.getElem_toArray, List.getElem_cons_zero, List.getElem_cons_succ, Act.put, List.setIfInBounds_toArray, List.set_cons_zero, List.set_cons_succ]
                  refine wpAnyH_ready (rs := [1, 8]) (by kernel_rfl) (by simp) ?_
                  refine AllReadyH.cons (o := _) rfl (fun K hK => ?_) (AllReadyH.cons (o := _) rfl (fun K hK => ?_) AllReadyH.nil)
                  go_simp
                  refine hK.out _ _ trivial (fun hHeld2 => ?_)
                  clear hK K hHeld
                  have hHeld := hHeld2
                  clear hHeld2
                  try simp only [List.getElem_toArray, List.getElem_cons_zero, List.getElem_cons_succ, Act.put, List.setIfInBounds_toArray, List.set_cons_zero, List.set_cons_succ]
                  refine wpAnyH_ready (rs := [8]) (by kernel_rfl) (by simp) ?_
                  refine AllReadyH.cons (o := _) rfl (fun K hK => ?_) AllReadyH.nil
                  go_simp
                  go_at_call 50
                  apply pick_op
                  · exact HRd.out
                  · exact by omega
                  intro v2 X2 g0 g1 hR2 hG2
                  clear g0 g1
                  replace HRd := Lib.hid hR2
                  replace HO := Lib.hid (own_only HO.out hG2 (by omega))
                  replace HR := Lib.hid (HR.out.only hG2 (by omega))
                  replace HA := Lib.hid (HA.out.only hG2 (by omega))
                  replace HG := Lib.hid (only_trans HG.out hG2)
                  clear hG2 hR2 a0 a1 f0 f1 hA6
                  obtain ⟨a0, a1, f0, f1, hA6⟩ := box2 HA.out
                  refine hK.out _ _ trivial (fun hHeld2 => ?_)
                  clear hK K hHeld
                  have hHeld := hHeld2
                  clear hHeld2
                  try simp only [List.getElem_toArray, List.getElem_cons_zero, List.getElem_cons_succ, Act.put, List.setIfInBounds_toArray, List.set_cons_zero, List.set_cons_succ]
                  clear X
                  obtain ⟨X, rfl⟩ : ∃ X, X = X2 := ⟨_, rfl⟩
                  refine wpAnyH_take (i := 9) (oi := _) (v := ?_) rfl (by kernel_rfl) (by kernel_rfl) (by kernel_rfl) (fun _ _ _ h => h) (Or.inl ⟨by rfl, ?_⟩) (by assumption) ?_
                  rotate_left
                  focus (intro w hSw; (try dsimp only at hSw); go_simp; try (with_reducible rfl))
                  try simp only [List.getElem_toArray, List.getElem_cons_zero, List.getElem_cons_succ, Act.put, List.setIfInBounds_toArray, List.set_cons_zero, List.set_cons_succ]
                  refine wpAnyH_ready (rs := [11]) (by kernel_rfl) (by simp) ?_
                  refine AllReadyH.cons (o := _) rfl (fun K hK => ?_) AllReadyH.nil
                  go_simp
                  go_at_call 50
                  apply pick_op
                  · exact HRd.out
                  · exact by omega
                  intro v3 X2 g0 g1 hR2 hG2
                  clear g0 g1
                  replace HRd := Lib.hid hR2
                  replace HO := Lib.hid (own_only HO.out hG2 (by omega))
                  replace HR := Lib.hid (HR.out.only hG2 (by omega))
                  replace HA := Lib.hid (HA.out.only hG2 (by omega))
                  replace HG := Lib.hid (only_trans HG.out hG2)
                  clear hG2 hR2 a0 a1 f0 f1 hA6
                  obtain ⟨a0, a1, f0, f1, hA6⟩ := box2 HA.out
                  refine hK.out _ _ trivial (fun hHeld2 => ?_)
                  clear hK K hHeld
                  have hHeld := hHeld2
                  clear hHeld2
                  try simp only [List.getElem_toArray, List.getElem_cons_zero, List.getElem_cons_succ, Act.put, List.setIfInBounds_toArray, List.set_cons_zero, List.set_cons_succ]
                  clear X
                  obtain ⟨X, rfl⟩ : ∃ X, X = X2 := ⟨_, rfl⟩
                  refine wpAnyH_take (i := 12) (oi := _) (v := ?_) rfl (by kernel_rfl) (by kernel_rfl) (by kernel_rfl) (fun _ _ _ h => h) (Or.inl ⟨by rfl, ?_⟩) (by assumption) ?_
                  rotate_left
                  focus (intro w hSw; (try dsimp only at hSw); go_simp; try (with_reducible rfl))
                  try simp only [List.getElem_toArray, List.getElem_cons_zero, List.getElem_cons_succ, Act.put, List.setIfInBounds_toArray, List.set_cons_zero, List.set_cons_succ]
                  refine wpAnyH_take (i := 13) (oi := _) (v := ?_) rfl (by kernel_rfl) (by kernel_rfl) (by kernel_rfl) (fun _ _ _ h => h) (Or.inl ⟨by rfl, ?_⟩) (by assumption) ?_
                  rotate_left
                  focus (intro w hSw; (try dsimp only at hSw); go_simp; try (with_reducible rfl))
                  try simp only [List.getElem_toArray, List.getElem_cons_zero, List.getElem_cons_succ, Act.put, List.setIfInBounds_toArray, List.set_cons_zero, List.set_cons_succ]
                  refine wpAnyH_take (i := 14) (oi := _) (v := ?_) rfl (by kernel_rfl) (by kernel_rfl) (by kernel_rfl) (fun _ _ _ h => h) (Or.inl ⟨by rfl, ?_⟩) (by assumption) ?_
                  rotate_left
                  focus (intro w hSw; (try dsimp only at hSw); go_simp; try (with_reducible rfl))
                  try simp only [List.getElem_toArray, List.getElem_cons_zero, List.getElem_cons_succ, Act.put, List.setIfInBounds_toArray, List.set_cons_zero, List.set_cons_succ]
                  refine wpAnyH_ready (rs := [15]) (by kernel_rfl) (by simp) ?_
                  refine AllReadyH.cons (o := _) rfl (fun K hK => ?_) AllReadyH.nil
                  go_simp
                  have hNB := box_new X #[.int .i64 (a:Int), .int .i64 (b:Int), .int .i64 (IntKind.i64.wrap (IntKind.i64.wrap (1 + v1) + IntKind.i64.wrap (IntKind.i64.wrap (v2.tdiv 3) * v3)))] 46
                  replace HRd := Lib.hid (rdLe_alloc HRd.out (.cells #[.int .i64 (a:Int), .int .i64 (b:Int), .int .i64 (IntKind.i64.wrap (IntKind.i64.wrap (1 + v1) + IntKind.i64.wrap (IntKind.i64.wrap (v2.tdiv 3) * v3)))] 46))
                  replace HO := Lib.hid (HO.out.alloc (.cells #[.int .i64 (a:Int), .int .i64 (b:Int), .int .i64 (IntKind.i64.wrap (IntKind.i64.wrap (1 + v1) + IntKind.i64.wrap (IntKind.i64.wrap (v2.tdiv 3) * v3)))] 46))
                  replace HR := Lib.hid (HR.out.alloc (.cells #[.int .i64 (a:Int), .int .i64 (b:Int), .int .i64 (IntKind.i64.wrap (IntKind.i64.wrap (1 + v1) + IntKind.i64.wrap (IntKind.i64.wrap (v2.tdiv 3) * v3)))] 46))
                  replace HA := Lib.hid (HA.out.alloc (.cells #[.int .i64 (a:Int), .int .i64 (b:Int), .int .i64 (IntKind.i64.wrap (IntKind.i64.wrap (1 + v1) + IntKind.i64.wrap (IntKind.i64.wrap (v2.tdiv 3) * v3)))] 46))
                  replace HG := Lib.hid (only_alloc HG.out (.cells #[.int .i64 (a:Int), .int .i64 (b:Int), .int .i64 (IntKind.i64.wrap (IntKind.i64.wrap (1 + v1) + IntKind.i64.wrap (IntKind.i64.wrap (v2.tdiv 3) * v3)))] 46))
                  obtain ⟨bk, hbk⟩ : ∃ bk, X.heap.size = bk := ⟨_, rfl⟩
                  obtain ⟨X2, hX2⟩ : ∃ X2, X.alloc (.cells #[.int .i64 (a:Int), .int .i64 (b:Int), .int .i64 (IntKind.i64.wrap (IntKind.i64.wrap (1 + v1) + IntKind.i64.wrap (IntKind.i64.wrap (v2.tdiv 3) * v3)))] 46) = X2 := ⟨_, rfl⟩
                  rw [hX2] at HRd HO HR HA HG hNB
                  rw [hbk] at hNB
                  have HNB := Lib.hid hNB
                  try rw [hX2]
                  try rw [hbk]
                  clear hX2 hbk hNB a0 a1 f0 f1 hA6
                  obtain ⟨a0, a1, f0, f1, hA6⟩ := box2 HA.out
                  refine hK.out _ _ trivial (fun hHeld2 => ?_)
                  clear hK K hHeld
                  have hHeld := hHeld2
                  clear hHeld2
                  try simp only [List.getElem_toArray, List.getElem_cons_zero, List.getElem_cons_succ, Act.put, List.setIfInBounds_toArray, List.set_cons_zero, List.set_cons_succ]
                  clear X
                  obtain ⟨X, rfl⟩ : ∃ X, X = X2 := ⟨_, rfl⟩
                  have F := And.intro HRd.out (And.intro HO.out (And.intro HR.out (And.intro HA.out (And.intro HG.out HNB.out))))
                  clear HRd HO HR HA HG HNB a0 a1 f0 f1 hA6
                  revert hHeld
                  revert F
                  revert X
                  revert bk
                  revert v3
                  revert v2
                  revert v1
                  refine ?KA1
                  go_simp
                  go_at_call 50
                  apply pick_op
                  · exact HRd.out
                  · exact by omega
                  intro v2 X2 g0 g1 hR2 hG2
                  clear g0 g1
                  replace HRd := Lib.hid hR2
                  replace HO := Lib.hid (own_only HO.out hG2 (by omega))
                  replace HR := Lib.hid (HR.out.only hG2 (by omega))
                  replace HA := Lib.hid (HA.out.only hG2 (by omega))
                  replace HG := Lib.hid (only_trans HG.out hG2)
                  clear hG2 hR2 a0 a1 f0 f1 hA6
                  obtain ⟨a0, a1, f0, f1, hA6⟩ := box2 HA.out
                  refine hK.out _ _ trivial (fun hHeld2 => ?_)
                  clear hK K hHeld
                  have hHeld := hHeld2
                  clear hHeld2
                  try simp only [List.getElem_toArray, List.getElem_cons_zero, List.getElem_cons_succ, Act.put, List.setIfInBounds_toArray, List.set_cons_zero, List.set_cons_succ]
                  clear X
                  obtain ⟨X, rfl⟩ : ∃ X, X = X2 := ⟨_, rfl⟩
                  refine wpAnyH_take (i := 9) (oi := _) (v := ?_) rfl (by kernel_rfl) (by kernel_rfl) (by kernel_rfl) (fun _ _ _ h => h) (Or.inl ⟨by rfl, ?_⟩) (by assumption) ?_
                  rotate_left
                  focus (intro w hSw; (try dsimp only at hSw); go_simp; try (with_reducible rfl))
                  try simp only [List.getElem_toArray, List.getElem_cons_zero, List.getElem_cons_succ, Act.put, List.setIfInBounds_toArray, List.set_cons_zero, List.set_cons_succ]
                  refine wpAnyH_ready (rs := [1, 11]) (by kernel_rfl) (by simp) ?_
                  refine AllReadyH.cons (o := _) rfl (fun K hK => ?_) (AllReadyH.cons (o := _) rfl (fun K hK => ?_) AllReadyH.nil)
                  go_simp
                  refine hK.out _ _ trivial (fun hHeld2 => ?_)
                  clear hK K hHeld
                  have hHeld := hHeld2
                  clear hHeld2
                  try simp only [List.getElem_toArray, List.getElem_cons_zero, List.getElem_cons_succ, Act.put, List.setIfInBounds_toArray, List.set_cons_zero, List.set_cons_succ]
                  refine wpAnyH_ready (rs := [11]) (by kernel_rfl) (by simp) ?_
                  refine AllReadyH.cons (o := _) rfl (fun K hK => ?_) AllReadyH.nil
                  go_simp
                  go_at_call 50
                  apply pick_op
                  · exact HRd.out
                  · exact by omega
                  intro v3 X2 g0 g1 hR2 hG2
                  clear g0 g1
                  replace HRd := Lib.hid hR2
                  replace HO := Lib.hid (own_only HO.out hG2 (by omega))
                  replace HR := Lib.hid (HR.out.only hG2 (by omega))
                  replace HA := Lib.hid (HA.out.only hG2 (by omega))
                  replace HG := Lib.hid (only_trans HG.out hG2)
                  clear hG2 hR2 a0 a1 f0 f1 hA6
                  obtain ⟨a0, a1, f0, f1, hA6⟩ := box2 HA.out
                  refine hK.out _ _ trivial (fun hHeld2 => ?_)
                  clear hK K hHeld
                  have hHeld := hHeld2
                  clear hHeld2
                  try simp only [List.getElem_toArray, List.getElem_cons_zero, List.getElem_cons_succ, Act.put, List.setIfInBounds_toArray, List.set_cons_zero, List.set_cons_succ]
                  clear X
                  obtain ⟨X, rfl⟩ : ∃ X, X = X2 := ⟨_, rfl⟩
                  refine wpAnyH_take (i := 12) (oi := _) (v := ?_) rfl (by kernel_rfl) (by kernel_rfl) (by kernel_rfl) (fun _ _ _ h => h) (Or.inl ⟨by rfl, ?_⟩) (by assumption) ?_
                  rotate_left
                  focus (intro w hSw; (try dsimp only at hSw); go_simp; try (with_reducible rfl))
                  try simp only [List.getElem_toArray, List.getElem_cons_zero, List.getElem_cons_succ, Act.put, List.setIfInBounds_toArray, List.set_cons_zero, List.set_cons_succ]
                  refine wpAnyH_take (i := 13) (oi := _) (v := ?_) rfl (by kernel_rfl) (by kernel_rfl) (by kernel_rfl) (fun _ _ _ h => h) (Or.inl ⟨by rfl, ?_⟩) (by assumption) ?_
                  rotate_left
                  focus (intro w hSw; (try dsimp only at hSw); go_simp; try (with_reducible rfl))
                  try simp only [List.getElem_toArray, List.getElem_cons_zero, List.getElem_cons_succ, Act.put, List.setIfInBounds_toArray, List.set_cons_zero, List.set_cons_succ]
                  refine wpAnyH_take (i := 14) (oi := _) (v := ?_) rfl (by kernel_rfl) (by kernel_rfl) (by kernel_rfl) (fun _ _ _ h => h) (Or.inl ⟨by rfl, ?_⟩) (by assumption) ?_
                  rotate_left
                  focus (intro w hSw; (try dsimp only at hSw); go_simp; try (with_reducible rfl))
                  try simp only [List.getElem_toArray, List.getElem_cons_zero, List.getElem_cons_succ, Act.put, List.setIfInBounds_toArray, List.set_cons_zero, List.set_cons_succ]
                  refine wpAnyH_ready (rs := [15]) (by kernel_rfl) (by simp) ?_
                  refine AllReadyH.cons (o := _) rfl (fun K hK => ?_) AllReadyH.nil
                  go_simp
                  have hNB := box_new X #[.int .i64 (a:Int), .int .i64 (b:Int), .int .i64 (IntKind.i64.wrap (IntKind.i64.wrap (1 + v1) + IntKind.i64.wrap (IntKind.i64.wrap (v2.tdiv 3) * v3)))] 46
                  replace HRd := Lib.hid (rdLe_alloc HRd.out (.cells #[.int .i64 (a:Int), .int .i64 (b:Int), .int .i64 (IntKind.i64.wrap (IntKind.i64.wrap (1 + v1) + IntKind.i64.wrap (IntKind.i64.wrap (v2.tdiv 3) * v3)))] 46))
                  replace HO := Lib.hid (HO.out.alloc (.cells #[.int .i64 (a:Int), .int .i64 (b:Int), .int .i64 (IntKind.i64.wrap (IntKind.i64.wrap (1 + v1) + IntKind.i64.wrap (IntKind.i64.wrap (v2.tdiv 3) * v3)))] 46))
                  replace HR := Lib.hid (HR.out.alloc (.cells #[.int .i64 (a:Int), .int .i64 (b:Int), .int .i64 (IntKind.i64.wrap (IntKind.i64.wrap (1 + v1) + IntKind.i64.wrap (IntKind.i64.wrap (v2.tdiv 3) * v3)))] 46))
                  replace HA := Lib.hid (HA.out.alloc (.cells #[.int .i64 (a:Int), .int .i64 (b:Int), .int .i64 (IntKind.i64.wrap (IntKind.i64.wrap (1 + v1) + IntKind.i64.wrap (IntKind.i64.wrap (v2.tdiv 3) * v3)))] 46))
                  replace HG := Lib.hid (only_alloc HG.out (.cells #[.int .i64 (a:Int), .int .i64 (b:Int), .int .i64 (IntKind.i64.wrap (IntKind.i64.wrap (1 + v1) + IntKind.i64.wrap (IntKind.i64.wrap (v2.tdiv 3) * v3)))] 46))
                  obtain ⟨bk, hbk⟩ : ∃ bk, X.heap.size = bk := ⟨_, rfl⟩
                  obtain ⟨X2, hX2⟩ : ∃ X2, X.alloc (.cells #[.int .i64 (a:Int), .int .i64 (b:Int), .int .i64 (IntKind.i64.wrap (IntKind.i64.wrap (1 + v1) + IntKind.i64.wrap (IntKind.i64.wrap (v2.tdiv 3) * v3)))] 46) = X2 := ⟨_, rfl⟩
                  rw [hX2] at HRd HO HR HA HG hNB
                  rw [hbk] at hNB
                  have HNB := Lib.hid hNB
                  try rw [hX2]
                  try rw [hbk]
                  clear hX2 hbk hNB a0 a1 f0 f1 hA6
                  obtain ⟨a0, a1, f0, f1, hA6⟩ := box2 HA.out
                  refine hK.out _ _ trivial (fun hHeld2 => ?_)
                  clear hK K hHeld
                  have hHeld := hHeld2
                  clear hHeld2
                  try simp only [List.getElem_toArray, List.getElem_cons_zero, List.getElem_cons_succ, Act.put, List.setIfInBounds_toArray, List.set_cons_zero, List.set_cons_succ]
                  clear X
                  obtain ⟨X, rfl⟩ : ∃ X, X = X2 := ⟨_, rfl⟩
                  have F := And.intro HRd.out (And.intro HO.out (And.intro HR.out (And.intro HA.out (And.intro HG.out HNB.out))))
                  clear HRd HO HR HA HG HNB a0 a1 f0 f1 hA6
                  revert hHeld
                  revert F
                  revert X
                  revert bk
                  revert v3
                  revert v2
                  revert v1
                  refine ?KA1
                  go_simp
                  go_at_call 50
                  apply pick_op
                  · exact HRd.out
                  · exact by omega
                  intro v3 X2 g0 g1 hR2 hG2
                  clear g0 g1
                  replace HRd := Lib.hid hR2
                  replace HO := Lib.hid (own_only HO.out hG2 (by omega))
                  replace HR := Lib.hid (HR.out.only hG2 (by omega))
                  replace HA := Lib.hid (HA.out.only hG2 (by omega))
                  replace HG := Lib.hid (only_trans HG.out hG2)
                  clear hG2 hR2 a0 a1 f0 f1 hA6
                  obtain ⟨a0, a1, f0, f1, hA6⟩ := box2 HA.out
                  refine hK.out _ _ trivial (fun hHeld2 => ?_)
                  clear hK K hHeld
                  have hHeld := hHeld2
                  clear hHeld2
                  try simp only [List.getElem_toArray, List.getElem_cons_zero, List.getElem_cons_succ, Act.put, List.setIfInBounds_toArray, List.set_cons_zero, List.set_cons_succ]
                  clear X
                  obtain ⟨X, rfl⟩ : ∃ X, X = X2 := ⟨_, rfl⟩
                  refine wpAnyH_take (i := 12) (oi := _) (v := ?_) rfl (by kernel_rfl) (by kernel_rfl) (by kernel_rfl) (fun _ _ _ h => h) (Or.inl ⟨by rfl, ?_⟩) (by assumption) ?_
                  rotate_left
                  focus (intro w hSw; (try dsimp only at hSw); go_simp; try (with_reducible rfl))
                  try simp only [List.getElem_toArray, List.getElem_cons_zero, List.getElem_cons_succ, Act.put, List.setIfInBounds_toArray, List.set_cons_zero, List.set_cons_succ]
                  refine wpAnyH_take (i := 13) (oi := _) (v := ?_) rfl (by kernel_rfl) (by kernel_rfl) (by kernel_rfl) (fun _ _ _ h => h) (Or.inl ⟨by rfl, ?_⟩) (by assumption) ?_
                  rotate_left
                  focus (intro w hSw; (try dsimp only at hSw); go_simp; try (with_reducible rfl))
                  try simp only [List.getElem_toArray, List.getElem_cons_zero, List.getElem_cons_succ, Act.put, List.setIfInBounds_toArray, List.set_cons_zero, List.set_cons_succ]
                  refine wpAnyH_take (i := 14) (oi := _) (v := ?_) rfl (by kernel_rfl) (by kernel_rfl) (by kernel_rfl) (fun _ _ _ h => h) (Or.inl ⟨by rfl, ?_⟩) (by assumption) ?_
                  rotate_left
                  focus (intro w hSw; (try dsimp only at hSw); go_simp; try (with_reducible rfl))
                  try simp only [List.getElem_toArray, List.getElem_cons_zero, List.getElem_cons_succ, Act.put, List.setIfInBounds_toArray, List.set_cons_zero, List.set_cons_succ]
                  refine wpAnyH_ready (rs := [1, 15]) (by kernel_rfl) (by simp) ?_
                  refine AllReadyH.cons (o := _) rfl (fun K hK => ?_) (AllReadyH.cons (o := _) rfl (fun K hK => ?_) AllReadyH.nil)
                  go_simp
                  refine hK.out _ _ trivial (fun hHeld2 => ?_)
                  clear hK K hHeld
                  have hHeld := hHeld2
                  clear hHeld2
                  try simp only [List.getElem_toArray, List.getElem_cons_zero, List.getElem_cons_succ, Act.put, List.setIfInBounds_toArray, List.set_cons_zero, List.set_cons_succ]
                  refine wpAnyH_ready (rs := [15]) (by kernel_rfl) (by simp) ?_
                  refine AllReadyH.cons (o := _) rfl (fun K hK => ?_) AllReadyH.nil
                  go_simp
                  have hNB := box_new X #[.int .i64 (a:Int), .int .i64 (b:Int), .int .i64 (IntKind.i64.wrap (IntKind.i64.wrap (1 + v1) + IntKind.i64.wrap (IntKind.i64.wrap (v2.tdiv 3) * v3)))] 46
                  replace HRd := Lib.hid (rdLe_alloc HRd.out (.cells #[.int .i64 (a:Int), .int .i64 (b:Int), .int .i64 (IntKind.i64.wrap (IntKind.i64.wrap (1 + v1) + IntKind.i64.wrap (IntKind.i64.wrap (v2.tdiv 3) * v3)))] 46))
                  replace HO := Lib.hid (HO.out.alloc (.cells #[.int .i64 (a:Int), .int .i64 (b:Int), .int .i64 (IntKind.i64.wrap (IntKind.i64.wrap (1 + v1) + IntKind.i64.wrap (IntKind.i64.wrap (v2.tdiv 3) * v3)))] 46))
                  replace HR := Lib.hid (HR.out.alloc (.cells #[.int .i64 (a:Int), .int .i64 (b:Int), .int .i64 (IntKind.i64.wrap (IntKind.i64.wrap (1 + v1) + IntKind.i64.wrap (IntKind.i64.wrap (v2.tdiv 3) * v3)))] 46))
                  replace HA := Lib.hid (HA.out.alloc (.cells #[.int .i64 (a:Int), .int .i64 (b:Int), .int .i64 (IntKind.i64.wrap (IntKind.i64.wrap (1 + v1) + IntKind.i64.wrap (IntKind.i64.wrap (v2.tdiv 3) * v3)))] 46))
                  replace HG := Lib.hid (only_alloc HG.out (.cells #[.int .i64 (a:Int), .int .i64 (b:Int), .int .i64 (IntKind.i64.wrap (IntKind.i64.wrap (1 + v1) + IntKind.i64.wrap (IntKind.i64.wrap (v2.tdiv 3) * v3)))] 46))
                  obtain ⟨bk, hbk⟩ : ∃ bk, X.heap.size = bk := ⟨_, rfl⟩
                  obtain ⟨X2, hX2⟩ : ∃ X2, X.alloc (.cells #[.int .i64 (a:Int), .int .i64 (b:Int), .int .i64 (IntKind.i64.wrap (IntKind.i64.wrap (1 + v1) + IntKind.i64.wrap (IntKind.i64.wrap (v2.tdiv 3) * v3)))] 46) = X2 := ⟨_, rfl⟩
                  rw [hX2] at HRd HO HR HA HG hNB
                  rw [hbk] at hNB
                  have HNB := Lib.hid hNB
                  try rw [hX2]
                  try rw [hbk]
                  clear hX2 hbk hNB a0 a1 f0 f1 hA6
                  obtain ⟨a0, a1, f0, f1, hA6⟩ := box2 HA.out
                  refine hK.out _ _ trivial (fun hHeld2 => ?_)
                  clear hK K hHeld
                  have hHeld := hHeld2
                  clear hHeld2
                  try simp only [List.getElem_toArray, List.getElem_cons_zero, List.getElem_cons_succ, Act.put, List.setIfInBounds_toArray, List.set_cons_zero, List.set_cons_succ]
                  clear X
                  obtain ⟨X, rfl⟩ : ∃ X, X = X2 := ⟨_, rfl⟩
                  have F := And.intro HRd.out (And.intro HO.out (And.intro HR.out (And.intro HA.out (And.intro HG.out HNB.out))))
                  clear HRd HO HR HA HG HNB a0 a1 f0 f1 hA6
                  revert hHeld
                  revert F
                  revert X
                  revert bk
                  revert v3
                  revert v2
                  revert v1
                  refine ?KA1
                  go_simp
                  have hNB := box_new X #[.int .i64 (a:Int), .int .i64 (b:Int), .int .i64 (IntKind.i64.wrap (IntKind.i64.wrap (1 + v1) + IntKind.i64.wrap (IntKind.i64.wrap (v2.tdiv 3) * v3)))] 46
                  replace HRd := Lib.hid (rdLe_alloc HRd.out (.cells #[.int .i64 (a:Int), .int .i64 (b:Int), .int .i64 (IntKind.i64.wrap (IntKind.i64.wrap (1 + v1) + IntKind.i64.wrap (IntKind.i64.wrap (v2.tdiv 3) * v3)))] 46))
                  replace HO := Lib.hid (HO.out.alloc (.cells #[.int .i64 (a:Int), .int .i64 (b:Int), .int .i64 (IntKind.i64.wrap (IntKind.i64.wrap (1 + v1) + IntKind.i64.wrap (IntKind.i64.wrap (v2.tdiv 3) * v3)))] 46))
                  replace HR := Lib.hid (HR.out.alloc (.cells #[.int .i64 (a:Int), .int .i64 (b:Int), .int .i64 (IntKind.i64.wrap (IntKind.i64.wrap (1 + v1) + IntKind.i64.wrap (IntKind.i64.wrap (v2.tdiv 3) * v3)))] 46))
                  replace HA := Lib.hid (HA.out.alloc (.cells #[.int .i64 (a:Int), .int .i64 (b:Int), .int .i64 (IntKind.i64.wrap (IntKind.i64.wrap (1 + v1) + IntKind.i64.wrap (IntKind.i64.wrap (v2.tdiv 3) * v3)))] 46))
                  replace HG := Lib.hid (only_alloc HG.out (.cells #[.int .i64 (a:Int), .int .i64 (b:Int), .int .i64 (IntKind.i64.wrap (IntKind.i64.wrap (1 + v1) + IntKind.i64.wrap (IntKind.i64.wrap (v2.tdiv 3) * v3)))] 46))
                  obtain ⟨bk, hbk⟩ : ∃ bk, X.heap.size = bk := ⟨_, rfl⟩
                  obtain ⟨X2, hX2⟩ : ∃ X2, X.alloc (.cells #[.int .i64 (a:Int), .int .i64 (b:Int), .int .i64 (IntKind.i64.wrap (IntKind.i64.wrap (1 + v1) + IntKind.i64.wrap (IntKind.i64.wrap (v2.tdiv 3) * v3)))] 46) = X2 := ⟨_, rfl⟩
                  rw [hX2] at HRd HO HR HA HG hNB
                  rw [hbk] at hNB
                  have HNB := Lib.hid hNB
                  try rw [hX2]
                  try rw [hbk]
                  clear hX2 hbk hNB a0 a1 f0 f1 hA6
                  obtain ⟨a0, a1, f0, f1, hA6⟩ := box2 HA.out
                  refine hK.out _ _ trivial (fun hHeld2 => ?_)
                  clear hK K hHeld
                  have hHeld := hHeld2
                  clear hHeld2
                  try simp only [List.getElem_toArray, List.getElem_cons_zero, List.getElem_cons_succ, Act.put, List.setIfInBounds_toArray, List.set_cons_zero, List.set_cons_succ]
                  clear X
                  obtain ⟨X, rfl⟩ : ∃ X, X = X2 := ⟨_, rfl⟩
                  refine wpAnyH_ready (rs := [1]) (by kernel_rfl) (by simp) ?_
                  refine AllReadyH.cons (o := _) rfl (fun K hK => ?_) AllReadyH.nil
                  go_simp
                  refine hK.out _ _ trivial (fun hHeld2 => ?_)
                  clear hK K hHeld
                  have hHeld := hHeld2
                  clear hHeld2
                  try simp only [List.getElem_toArray, List.getElem_cons_zero, List.getElem_cons_succ, Act.put, List.setIfInBounds_toArray, List.set_cons_zero, List.set_cons_succ]
                  have F := And.intro HRd.out (And.intro HO.out (And.intro HR.out (And.intro HA.out (And.intro HG.out HNB.out))))
                  clear HRd HO HR HA HG HNB a0 a1 f0 f1 hA6
                  revert hHeld
                  revert F
                  revert X
                  revert bk
                  revert v3
                  revert v2
                  revert v1
                  refine ?KA1
                  intro v1 v2 v3 bk X F hHeld
                  obtain ⟨F1, F2, F3, F4, F5, F6⟩ := F
                  have HRd := Lib.hid F1; have HO := Lib.hid F2; have HR := Lib.hid F3; have HA := Lib.hid F4; have HG := Lib.hid F5; have HNB := Lib.hid F6
                  obtain ⟨a0, a1, f0, f1, hA6⟩ := box2 F4
                  have hXs := F5.size
                  have hBr := rdLe_lt F1
                  clear F1 F2 F3 F4 F5 F6
                  obtain ⟨i0, hi, hz0, hz1, hz2⟩ := info_parts infoLk
                  have hXP : P ≤ X.heap.size := by omega
                  obtain ⟨cst, hcst⟩ : ∃ c, (IntKind.i64.wrap (IntKind.i64.wrap (1 + v1) + IntKind.i64.wrap (IntKind.i64.wrap (v2.tdiv 3) * v3))) = c := ⟨_, rfl⟩
                  rw [hcst] at HNB
                  clear hcst
                  refine wpAnyH_ready (rs := [16]) (by kernel_rfl) (by simp) ?_
                  refine AllReadyH.cons (o := _) rfl (fun K hK => ?_) AllReadyH.nil
                  refine step_append_rd (by rfl) _ _ _ (by rfl) P 46 i0 _ 3 24 Try.underlying24 hi hz0 hz1 hz2 rfl (by omega) (.slice hva ls.length hvc) ls.length (cells3 ls) (by rfl) HO.out (some ⟨bk, 0, none⟩) 1 1 [.int .i64 (a:Int), .int .i64 (b:Int), .int .i64 cst] (by rfl) (srcAt_one (n := 1) (o := 3) HNB.out rfl) (by simp [Value.oneCell']) (by unfold maxLen; omega) (by omega) hXP ?_
                  intro v' X3 hown3 hgrow hloc
                  have hgne := box_own_ne HA.out HO.out (by decide)
                  have R4 := HR.out.grown hgrow (fun j hj e => by have := (HO.out.lt j hj).1; have := HR.out.lt; omega)
                  have A4 := HA.out.grown hgrow (fun j hj e => hgne (hj.trans (by rw [e])))
                  have D4 := rdLe_grown HRd.out hgrow (fun j hj => by have := (HO.out.lt j hj).1; omega)
                  have G4 := only_grownG HG.out hgrow (fun j hj => by have := (HO.out.lt j hj).1; omega)
                  have o4 : X3.ownsRow P 46 3 v' (ls ++ [((a:Int), (b:Int), cst)]).length (cells3 (ls ++ [((a:Int), (b:Int), cst)])) := by simpa [cells3_snoc] using hown3
                  have hne4 := box_own_ne A4 o4 (by decide)
                  have hsz4 := hgrow.size
                  obtain ⟨g4, c4, rfl⟩ := own_slice o4
                  replace HR := Lib.hid R4; replace HA := Lib.hid A4; replace HRd := Lib.hid D4; replace HG := Lib.hid G4; replace HO := Lib.hid o4
                  clear R4 A4 D4 G4 o4 hown3 hgrow hloc a0 a1 f0 f1 hA6 HNB hgne
                  obtain ⟨a0, a1, f0, f1, hA6⟩ := box2 HA.out
                  refine hK.out _ _ trivial (fun hHeld2 => ?_)
                  clear hK K hHeld
                  have hHeld := hHeld2
                  clear hHeld2
                  try simp only [List.getElem_toArray, List.getElem_cons_zero, List.getElem_cons_succ, Act.put, List.setIfInBounds_toArray, List.set_cons_zero, List.set_cons_succ]
                  refine wpAnyH_take (i := 17) (oi := _) (v := ?_) rfl (by kernel_rfl) (by kernel_rfl) (by kernel_rfl) (fun _ _ _ h => h) (Or.inl ⟨by rfl, ?_⟩) (by assumption) ?_
                  rotate_left
                  focus (intro w hSw; (try dsimp only at hSw); go_simp; try (with_reducible rfl))
                  try simp only [List.getElem_toArray, List.getElem_cons_zero, List.getElem_cons_succ, Act.put, List.setIfInBounds_toArray, List.set_cons_zero, List.set_cons_succ]
                  refine wpAnyH_ready (rs := [18]) (by kernel_rfl) (by simp) ?_
                  refine AllReadyH.cons (o := _) rfl (fun K hK => ?_) AllReadyH.nil
                  go_simp
                  refine hK.out _ _ trivial (fun hHeld2 => ?_)
                  clear hK K hHeld hHeld2
                  refine wpAnyH_done (by kernel_rfl) ?_ _
                  refine NoPanic.normal ?_
                  have HNE := Lib.hid hne4
                  clear hne4
                  go_wp2_with fail
                  go_roundw
                  case rel =>
                    refine ⟨trivial, b + 1, by omega, by omega, by go_num, ?_⟩
                    refine ⟨_, ls ++ [((a:Int), (b:Int), cst)], by simp; omega, rdLe_mono (rdLe_setCell HRd.out (a := ⟨P + 1, 1, none⟩) (by simp; omega) _) (by omega), own_setOther HO.out (a := ⟨P + 1, 1, none⟩) HNE.out _, HR.out.setOther (a := ⟨P + 1, 1, none⟩) (by simp; omega) _, (by have h := box2_set1 HA.out (.slice g4 (ls.length + 1) c4); simpa using h), only_setCell HG.out (p := ⟨P + 1, 1, none⟩) (.inr (by simp; omega)) _⟩
                  case measure => simp [intOf]; omega
          · obtain rfl : b = N := by omega
            go_wp2_with fail
            go_roundw
            case rel => exact ⟨a + 1, by omega, by go_num, GLoop.mono ⟨.slice hva ls.length hvc, ls, hls, HRd.out, HO.out, HR.out, HA.out, HG.out⟩ (by omega)⟩
            case measure => simp [intOf]; omega
      · obtain rfl : a = N := by omega
        have HRd := Lib.hid hRd; have HO := Lib.hid hO; have HR := Lib.hid hR; have HA := Lib.hid hA; have HG := Lib.hid hG
        clear hRd hO hR hA hG
        obtain ⟨hva, hvc, rfl⟩ := own_slice HO.out
        obtain ⟨c0, c1, h0, h1, hR4⟩ := box2 HR.out
        go_wp2_with fail
        have hRd := HRd.out
        apply pick_op
        · (with_reducible (repeat (first | assumption | apply rdLe_alloc | apply rdLe_drewN | apply rdLe_drew | apply rdLe_set | (apply rdLe_setCell; rotate_left; (focus (first | omega | (simp; done) | (simp; omega)))))))
        · exact by omega
        intro z w6 z_0 z_1 w6_R w6_G
        have hR6 := HR.out.only w6_G (by omega)
        have hA6 := HA.out.only w6_G (by omega)
        have HO6 := Lib.hid (own_only HO.out w6_G (by omega))
        have HG6 := Lib.hid (only_trans HG.out w6_G)
        have HD6 := Lib.hid w6_R
        have hs6 := w6_G.size
        clear w6_G w6_R a0 a1 f0 f1 c0 c1 h0 h1 hRd
        obtain ⟨a0, a1, f0, f1, hA7⟩ := box2 hA6
        obtain ⟨c0, c1, h0, h1, hR7⟩ := box2 hR6
        rcases Bool.eq_false_or_eq_true (z == 0) with hz | hz
        · go_wp2_with fail
          apply bodyPost_ret
          · simp [results, Try.results49, go_sem, c0, c1, h0, h1, a0, a1, f0, f1, hR7, hA7]
            rfl
          · rfl
          · have hRd := HD6.out
            have hG6 := HG6.out
            have hPw : w.heap.size ≤ w6.heap.size := by omega
            refine ⟨1, _, [], rfl, by simp, (OwnR.of (own_new (by simp) hPw)), ?_, ?_, by omega, by omega⟩
            · apply rdLe_mono
              · refine rdLe_alloc (rdLe_setCell (rdLe_setCell (rdLe_setCell (rdLe_setCell hRd ?_ _) ?_ _) ?_ _) ?_ _) _
                all_goals (simp; omega)
              · omega
            · refine only_alloc (only_setCell (only_setCell (only_setCell (only_setCell hG6 (.inr ?_) _) (.inr ?_) _) (.inr ?_) _) (.inr ?_) _) _
              all_goals (simp; try omega)
        · go_wp2_with fail
          apply bodyPost_ret
          · simp [results, Try.results49, go_sem, c0, c1, h0, h1, a0, a1, f0, f1]
            rfl
          · rfl
          · have hRd := HD6.out
            have hG6 := HG6.out
            refine ⟨_, _, ls, rfl, hls, (OwnR.of (own_setCell (own_setCell HO6.out ?_ _) ?_ _)).mono (by omega) (Nat.le_refl _), ?_, ?_, by omega, by omega⟩
            · simp; omega
            · simp; omega
            · apply rdLe_mono
              · refine rdLe_setCell (rdLe_setCell hRd ?_ _) ?_ _
                all_goals (simp; omega)
              · omega
            · refine only_setCell (only_setCell hG6 (.inr ?_) _) (.inr ?_) _
              all_goals (simp; try omega)
end Go.Proofs.Ytnnkdoomjkccgaa
