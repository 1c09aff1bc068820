/- The draw of labels: l91Stack: some few labels in new memory. -/
import Derived.Test.YtoebefpmfgkpoaaDrawG
import Derived.Test.YtoebefpmfgkpoaaGNbS
import Derived.Test.YtoebefpmfgkpoaaGLab
import Derived.Test.YtoebefpmfgkpoaaStep
namespace Go.Proofs.Ytoebefpmfgkpoaa
set_option linter.unusedSimpArgs false
set_option linter.unusedVariables false
open Go.RowKit

theorem TriplesAt.only {w w' : World} {v : Value} {ls : List (Int × Int × Int)} {B : Nat} (h : TriplesAt w v ls) (hg : w.grownBy w' (some B)) (hB : v.ownBlock ≠ some B) : TriplesAt w' v ls := by
  obtain ⟨a, cap, b, off, rfl, h1, h2, h3, h4⟩ := h
  refine ⟨a, cap, b, off, rfl, h1, h2, h3, fun k x y z hk => ?_⟩
  obtain ⟨c0, c1, c2⟩ := h4 k x y z hk
  have hl := (List.getElem?_eq_some_iff.1 hk).1
  have e := h3 (by omega)
  subst e
  have hne : (some b : Option Nat) ≠ some B := fun e => hB (by simpa [Value.ownBlock] using e)
  have hk : w'.heap[b]? = w.heap[b]? := hg.block b (cell_lt c0) (fun e => hne e)
  exact ⟨(World.cell?_of_block (w := w) hk).trans c0, (World.cell?_of_block (w := w) hk).trans c1, (World.cell?_of_block (w := w) hk).trans c2⟩
def DrawStPost (w : World) (B : Nat) (m : Int) (e : Ending) (w' : World) : Prop :=
  ∃ u s, e = .returned u ∧ s.length ≤ 9 ∧ OwnR w' w.heap.size w'.heap.size 56 2 u s.length (cells2 s) ∧ RdLe w' B (m + 60) ∧ w.grownBy w' (some B)
/-- What holds in l91Stack: the reader, the labels so far, the graph's box. -/
structure StW (w : World) (B : Nat) (n : Int) (gv : Value) (m : Int) (hv : Value) (s : List LabelD) (W : World) : Prop where
  rd : RdLe W B m
  own : W.ownsRow (w.heap.size + 1) 56 2 hv s.length (cells2 s)
  box : Box W w.heap.size #[.int .i64 n, gv] 25
  grown : w.grownBy W (some B)
section
variable {w : World} {B : Nat} {n : Int} {gv : Value} {m : Int} {hv : Value} {s : List LabelD} {W W' : World}
theorem StW.only (h : StW w B n gv m hv s W) (hB : B < w.heap.size) (hg : W.grownBy W' (some B)) {m' : Int} (hr : RdLe W' B m') : StW w B n gv m' hv s W' :=
  ⟨hr, own_only h.own hg (by omega), h.box.only hg (by omega), only_trans h.grown hg⟩
theorem StW.below (h : StW w B n gv m hv s W) (hb : Below W.heap.size W W') : StW w B n gv m hv s W' :=
  ⟨rdLe_below h.rd hb, ((OwnR.of h.own).below hb (Nat.le_refl _)).1, h.box.below hb h.box.lt, only_below h.grown hb⟩
theorem StW.mono (h : StW w B n gv m hv s W) {m' : Int} (hm : m ≤ m') : StW w B n gv m' hv s W := ⟨rdLe_mono h.rd hm, h.own, h.box, h.grown⟩
theorem StW.alloc (h : StW w B n gv m hv s W) (o : Obj) : StW w B n gv m hv s (W.alloc o) := h.below ((Below.refl _ _).alloc (Nat.le_refl _) _)
theorem StW.drew (h : StW w B n gv m hv s W) : StW w B n gv m hv s W.drew := ⟨rdLe_drew h.rd, own_drew h.own, h.box.drew, only_drew h.grown⟩
theorem StW.set (h : StW w B n gv m hv s W) (hB : B < w.heap.size) {P k : Nat} (hP : w.heap.size < P) (hne : hv.ownBlock ≠ some P) (u : Value) : StW w B n gv m hv s (W.setCell ⟨P, k, none⟩ u) :=
  ⟨rdLe_setCell h.rd (by simp; omega) u, own_setOther h.own hne u, h.box.setOther (a := ⟨P, k, none⟩) (by simp; omega) u, only_setCell h.grown (p := ⟨P, k, none⟩) (.inr (by simp; omega)) u⟩
end
/-- .. and the box of the label that is drawn. -/
structure LbW (w : World) (B : Nat) (n : Int) (gv : Value) (m : Int) (hv : Value) (s : List LabelD) (P : Nat) (W : World) : Prop where
  st : StW w B n gv m hv s W
  lab : ∃ x y : Int, Box W P #[.int .i64 x, .int .i64 y] 56
  far : w.heap.size < P
  ne : hv.ownBlock ≠ some P
section
variable {w : World} {B : Nat} {n : Int} {gv : Value} {m : Int} {hv : Value} {s : List LabelD} {P : Nat} {W W' : World}
theorem LbW.only (h : LbW w B n gv m hv s P W) (hB : B < w.heap.size) (hg : W.grownBy W' (some B)) {m' : Int} (hr : RdLe W' B m') : LbW w B n gv m' hv s P W' :=
  ⟨h.st.only hB hg hr, (let ⟨x, y, hb⟩ := h.lab; ⟨x, y, hb.only hg (by have := h.far; omega)⟩), h.far, h.ne⟩
theorem LbW.below (h : LbW w B n gv m hv s P W) (hb : Below W.heap.size W W') : LbW w B n gv m hv s P W' :=
  ⟨h.st.below hb, (let ⟨x, y, hc⟩ := h.lab; ⟨x, y, hc.below hb hc.lt⟩), h.far, h.ne⟩
theorem LbW.mono (h : LbW w B n gv m hv s P W) {m' : Int} (hm : m ≤ m') : LbW w B n gv m' hv s P W := ⟨h.st.mono hm, h.lab, h.far, h.ne⟩
theorem LbW.drew (h : LbW w B n gv m hv s P W) : LbW w B n gv m hv s P W.drew := ⟨h.st.drew, h.lab, h.far, h.ne⟩
theorem LbW.set (h : LbW w B n gv m hv s P W) (hB : B < w.heap.size) (x y : Int) : LbW w B n gv m hv s P ((W.setCell ⟨P, 0, none⟩ (.int .i64 x)).setCell ⟨P, 1, none⟩ (.int .i64 y)) := by
  obtain ⟨x', y', hb⟩ := h.lab
  exact ⟨(h.st.set hB h.far h.ne _).set hB h.far h.ne _, ⟨x, y, box2_set1 (box2_set0 hb _) _⟩, h.far, h.ne⟩
end
set_option maxRecDepth 100000 in
set_option maxHeartbeats 4000000 in
theorem drawStack (B : Nat) (m n a : Int) (ls : List LinkD) (v : Value) (w : World) (hv : TriplesAt w v ls) (hvB : v.ownBlock ≠ some B) (h : RdLe w B m) (hm : m < 1000000000) :
    Calls Try.prog 84 #[.pointer (some ⟨B, 0, none⟩), .agg #[.int .i64 n, v], .int .i64 a] w (DrawStPost w B m) := by
  have hB := rdLe_lt h
  have hn1 : w.heap.size ≠ B := by omega
  have hn2 : ∀ k, w.heap.size + k ≠ B := fun k => by omega
  have HV := Lib.hid hv; have HVB := Lib.hid hvB
  obtain ⟨va, vm, vcap, rfl⟩ := hv.form
  obtain ⟨i0, hi, hz0, hz1, hz2⟩ := info_parts infoLab
  have HI := Lib.hid hi; have HZ0 := Lib.hid hz0; have HZ1 := Lib.hid hz1; have HZ2 := Lib.hid hz2
  clear hv hvB hi hz0 hz1 hz2
  go_enter Try.func84, Try.ntmps84
  go_wp2_with fail
  have S0 : StW w B n (.slice va vm vcap) m (.slice (some ⟨w.heap.size + 1, 0, none⟩) 0 0) [] ((w.alloc (.cells #[.int .i64 n, .slice va vm vcap] 25)).alloc (.cells #[] 56)) :=
    ⟨rdLe_alloc (rdLe_alloc h _) _, own_new (by simp) (by simp), (box_new w #[.int .i64 n, .slice va vm vcap] 25).alloc _, only_alloc (only_alloc (only_refl w (some B)) _) _⟩
  obtain ⟨X, hX⟩ : ∃ X, (w.alloc (.cells #[.int .i64 n, .slice va vm vcap] 25)).alloc (.cells #[] 56) = X := ⟨_, rfl⟩
  rw [hX] at S0 ⊢
  have hRd := S0.rd
  have HS := Lib.hid S0
  clear hX S0 h
  apply pick_op
  · (with_reducible (repeat (first | assumption | apply rdLe_alloc | apply rdLe_drewN | apply rdLe_drew | apply rdLe_set | (apply rdLe_setCell; rotate_left; (focus (first | omega | (simp; done) | (simp; omega)))))))
  · exact by omega
  intro x w2 x_0 x_1 w2_R w2_G
  have HS2 := Lib.hid (HS.out.only hB w2_G w2_R)
  clear w2_G w2_R hRd HS
  go_wp2_with fail
  have hRd := HS2.out.rd
  apply pick_op
  · (with_reducible (repeat (first | assumption | apply rdLe_alloc | apply rdLe_drewN | apply rdLe_drew | apply rdLe_set | (apply rdLe_setCell; rotate_left; (focus (first | omega | (simp; done) | (simp; omega)))))))
  · exact by omega
  intro y w3 y_0 y_1 w3_R w3_G
  have HS3 := Lib.hid (HS2.out.only hB w3_G w3_R)
  clear w3_G w3_R hRd HS2
  go_upto_if 21 with fail
  go_cut [9] (fun s9 wc => ∃ N : Nat, N ≤ 9 ∧ s9 = .int .i64 N ∧ StW w B n (.slice va vm vcap) (m + 3) (.slice (some ⟨w.heap.size + 1, 0, none⟩) 0 0) [] wc)
  case first =>
    rcases Bool.eq_false_or_eq_true (y == 0) with hy | hy
    · go_wp2_with fail
      have hRd := HS3.out.rd
      apply pick_op
      · (with_reducible (repeat (first | assumption | apply rdLe_alloc | apply rdLe_drewN | apply rdLe_drew | apply rdLe_set | (apply rdLe_setCell; rotate_left; (focus (first | omega | (simp; done) | (simp; omega)))))))
      · exact by omega
      intro z w4 z_0 z_1 w4_R w4_G
      have HS4 := Lib.hid (HS3.out.only hB w4_G w4_R)
      have hz : IntKind.i64.wrap (7 + z) = 7 + z := IntWalk.i64_in _ (by omega)
      clear w4_G w4_R hRd HS3
      go_wp2_with fail
      go_meet
      obtain ⟨N, hN⟩ : ∃ N : Nat, 7 + z = (N:Int) := ⟨(7 + z).toNat, by omega⟩
      exact ⟨N, by omega, by rw [hN], HS4.out.mono (by omega)⟩
    · go_wp2_with fail
      go_meet
      obtain ⟨N, hN⟩ : ∃ N : Nat, x = (N:Int) := ⟨x.toNat, by omega⟩
      exact ⟨N, by omega, by rw [hN], HS3.out.mono (by omega)⟩
  case rest =>
    obtain ⟨N, hN, rfl, hS⟩ := hcut
    have HS := Lib.hid hS
    clear HS3 hS x_0 x_1 y_0 y_1
    go_wp2_with fail
    go_loopw [7, 8, 10] (fun hv av i wr => ∃ (k : Nat) (s : List LabelD) (c : Int), k ≤ N ∧ i = .int .i64 k ∧ s.length = k ∧ av = .int .i64 c ∧ StW w B n (.slice va vm vcap) (m + 3 + 6 * k) hv s wr) (fun _ _ i _ => N - (intOf i).toNat)
    case atStart => exact ⟨0, [], a, by omega, rfl, rfl, rfl, HS.out.mono (by omega)⟩
    case round =>
      obtain ⟨k, s, c, hk, rfl, hsl, rfl, hS⟩ := hrel
      clear HS
      have HS := Lib.hid hS
      have HSL := Lib.hid hsl
      by_cases hkN : k < N
      · have t1 : decide ((k:Int) < (N:Int)) = true := by simp; omega
        obtain ⟨b0, b1, f0, f1, hl0⟩ := box2 hS.box
        have hRd := hS.rd
        obtain ⟨ha, hc, rfl⟩ := own_slice hS.own
        clear hS hsl
        go_upto_region 9 with fail
        go_cut [11] (fun s11 wc => ∃ P : Nat, s11 = .pointer (some ⟨P, 0, none⟩) ∧ LbW w B n (.slice va vm vcap) (m + 3 + 6 * k + 1) (.slice ha s.length hc) s P wc)
        case first =>
          by_cases h1 : 1 ≤ n
          all_goals
            first
              | have hmx : max n 1 = n := by omega
              | have hmx : max n 1 = 1 := by omega
            go_wp2_with fail
            apply pick_op
            · (with_reducible (repeat (first | assumption | apply rdLe_alloc | apply rdLe_drewN | apply rdLe_drew | apply rdLe_set | (apply rdLe_setCell; rotate_left; (focus (first | omega | (simp; done) | (simp; omega)))))))
            · exact by omega
            intro p w5 p_0 p_1 w5_R w5_G
            have S5 := HS.out.only hB w5_G w5_R
            have hne : ∀ g, (Value.slice ha s.length hc).ownBlock = some g → g < w5.heap.size := fun g hg => (S5.own.lt g hg).2
            have hws := S5.grown.size
            have hb5 := S5.box.lt
            have L5 : LbW w B n (.slice va vm vcap) (m + 3 + 6 * k + 1) (.slice ha s.length hc) s w5.heap.size (w5.alloc (.cells #[.int .i64 1, .int .i64 p] 56)) :=
              ⟨S5.alloc _, ⟨_, _, box_new _ _ _⟩, hb5, fun e => by have := hne _ e; omega⟩
            have HL5 := Lib.hid L5
            clear w5_G w5_R hRd HS b0 b1 f0 f1 hl0 hmx S5 hne L5
            go_wp2_with fail
            go_meet
            exact ⟨_, rfl, HL5.out⟩
        case rest =>
          obtain ⟨P, rfl, hL⟩ := hcut
          have HL := Lib.hid hL
          clear HS hRd b0 b1 f0 f1 hl0
          obtain ⟨b0, b1, f0, f1, hl0⟩ := box2 hL.st.box
          have hv1 := HV.out.only hL.st.grown HVB.out
          clear hL
          go_wp2_with fail
          refine (sGNb n ls c _ _ hv1).mono ?_
          rintro e w6 ⟨l, hl8, lv, rfl, hlo, hb⟩
          have HL6 := Lib.hid (HL.out.below hb)
          have HLO := Lib.hid hlo
          have hwl : w.heap.size + 1 ≤ wc.heap.size := hl0
          clear hb hlo hv1 HL b0 b1 f0 f1 hl0
          obtain ⟨lva, lvc, rfl⟩ := own_slice HLO.out.1
          go_upto_region 11 with fail
          go_cut [46] (fun s46 wc => ∃ q, s46 = .bool q ∧ (q = true → 0 < l.length) ∧ LbW w B n (.slice va vm vcap) (m + 3 + 6 * k + 2) (.slice ha s.length hc) s P wc ∧ wc.ownsRow (w.heap.size + 1) 3 1 (.slice lva l.length lvc) l.length (l.map (Value.int .i64)))
          case first =>
            have HLO1 := Lib.hid (HLO.out.mono hwl (Nat.le_refl _)).1
            by_cases hl0 : 0 < l.length
            · have t2 : decide ((0:Int) < (l.length:Int)) = true := by simp; omega
              go_wp2_with fail
              have hRd := HL6.out.st.rd
              apply pick_op
              · (with_reducible (repeat (first | assumption | apply rdLe_alloc | apply rdLe_drewN | apply rdLe_drew | apply rdLe_set | (apply rdLe_setCell; rotate_left; (focus (first | omega | (simp; done) | (simp; omega)))))))
              · exact by omega
              intro z w7 z_0 z_1 w7_R w7_G
              have HL7 := Lib.hid (HL6.out.only hB w7_G w7_R)
              have HLO2 := Lib.hid (own_only HLO1.out w7_G (by omega))
              clear w7_G w7_R hRd HL6 HLO HLO1
              go_wp2_with fail
              go_meet
              exact ⟨_, rfl, fun _ => hl0, HL7.out.mono (by omega), HLO2.out⟩
            · have t2 : decide ((0:Int) < (l.length:Int)) = false := decide_eq_false (by omega)
              go_wp2_with fail
              go_meet
              exact ⟨_, rfl, (fun h => by cases h), HL6.out.mono (by omega), HLO1.out⟩
          case rest =>
            obtain ⟨q, rfl, hq, hL, hO⟩ := hcut
            have HQ := Lib.hid hq
            have HL := Lib.hid hL; have HO := Lib.hid hO
            clear HL6 HLO hL hO hq
            go_upto_if 46 with fail
            go_cut [] (fun wc => LbW w B n (.slice va vm vcap) (m + 3 + 6 * k + 3) (.slice ha s.length hc) s P wc)
            case first =>
              cases q with
              | false =>
                go_wp2_with fail
                go_meet
                exact HL.out.mono (by omega)
              | true =>
                have hl0 := HQ.out rfl
                obtain ⟨lg, lc, hlg, hlo⟩ := own_pos HO.out hl0
                injection hlg with q1 q2 q3
                subst q1
                subst q3
                clear q2 HQ
                obtain ⟨b0, b1, f0, f1, hb0⟩ := box2 HL.out.st.box
                go_upto_region 12 with fail
                have HL1 := Lib.hid HL.out.drew
                have HO1 := Lib.hid (own_drew HO.out)
                clear HL HO
                refine wp_region_noPanic ?_
                refine wp_region_held_drew (S := (fun w' => w'.cell? ⟨w.heap.size, 0, none⟩ = some (.int .i64 n) ∧ w'.cell? ⟨w.heap.size, 1, none⟩ = some (.slice va vm vcap))) (by kernel_rfl) (by ((try dsimp only); (first | go_keep | exact ⟨b0, b1⟩))) (fun hHeld => ?_)
                refine wpAnyH_take (i := 0) (oi := _) (v := ?_) rfl (by kernel_rfl) (by kernel_rfl) (by kernel_rfl) (fun _ _ _ h => h) (Or.inl ⟨by rfl, ?_⟩) (by assumption) ?_
                rotate_left
                focus (intro w hSw; (try dsimp only at hSw); go_simp; try (with_reducible rfl))
                try simp only [List.getElem_toArray, List.getElem_cons_zero, List.getElem_cons_succ, Act.put, List.setIfInBounds_toArray, List.set_cons_zero, List.set_cons_succ]
                refine wpAnyH_take (i := 1) (oi := _) (v := ?_) rfl (by kernel_rfl) (by kernel_rfl) (by kernel_rfl) (fun _ _ _ h => h) (Or.inl ⟨by rfl, ?_⟩) (by assumption) ?_
                rotate_left
                focus (intro w hSw; (try dsimp only at hSw); go_simp; try (with_reducible rfl))
                try simp only [List.getElem_toArray, List.getElem_cons_zero, List.getElem_cons_succ, Act.put, List.setIfInBounds_toArray, List.set_cons_zero, List.set_cons_succ]
                refine wpAnyH_take (i := 2) (oi := _) (v := ?_) rfl (by kernel_rfl) (by kernel_rfl) (by kernel_rfl) (fun _ _ _ h => h) (Or.inl ⟨by rfl, ?_⟩) (by assumption) ?_
                rotate_left
                focus (intro w hSw; (try dsimp only at hSw); go_simp; try (with_reducible rfl))
                try simp only [List.getElem_toArray, List.getElem_cons_zero, List.getElem_cons_succ, Act.put, List.setIfInBounds_toArray, List.set_cons_zero, List.set_cons_succ]
                refine wpAnyH_take (i := 3) (oi := _) (v := ?_) rfl (by kernel_rfl) (by kernel_rfl) (by kernel_rfl) (fun _ _ _ h => h) (Or.inl ⟨by rfl, ?_⟩) (by assumption) ?_
                rotate_left
                focus (intro w hSw; (try dsimp only at hSw); go_simp; try (with_reducible rfl))
                try simp only [List.getElem_toArray, List.getElem_cons_zero, List.getElem_cons_succ, Act.put, List.setIfInBounds_toArray, List.set_cons_zero, List.set_cons_succ]
                refine wpAnyH_take (i := 4) (oi := _) (v := ?_) rfl (by kernel_rfl) (by kernel_rfl) (by kernel_rfl) (fun _ _ _ h => h) (Or.inl ⟨by rfl, ?_⟩) (by assumption) ?_
                rotate_left
                focus (intro w hSw; (try dsimp only at hSw); go_simp; try (with_reducible rfl))
                try simp only [List.getElem_toArray, List.getElem_cons_zero, List.getElem_cons_succ, Act.put, List.setIfInBounds_toArray, List.set_cons_zero, List.set_cons_succ]
                refine wpAnyH_take (i := 5) (oi := _) (v := ?_) rfl (by kernel_rfl) (by kernel_rfl) (by kernel_rfl) (fun _ _ _ h => h) (Or.inl ⟨by rfl, ?_⟩) (by assumption) ?_
                rotate_left
                focus (intro w hSw; (try dsimp only at hSw); go_simp; try (with_reducible rfl))
                try simp only [List.getElem_toArray, List.getElem_cons_zero, List.getElem_cons_succ, Act.put, List.setIfInBounds_toArray, List.set_cons_zero, List.set_cons_succ]
                refine wpAnyH_ready (rs := [6]) (by kernel_rfl) (by simp) ?_
                refine AllReadyH.cons (o := _) rfl (fun K hK => ?_) AllReadyH.nil
                go_simp
                (have hRd := HL1.out.st.rd; go_at_call 87; apply pick_op; (focus (with_reducible (repeat (first | assumption | apply rdLe_alloc | apply rdLe_drewN | apply rdLe_drew | apply rdLe_set | (apply rdLe_setCell; rotate_left; (focus (first | omega | (simp; done) | (simp; omega)))))))); (focus (exact by omega)); intro z w7 z_0 z_1 w7_R w7_G; have HL2 := Lib.hid (HL1.out.only hB w7_G w7_R); have HO2 := Lib.hid (own_only HO1.out w7_G (by omega)); clear b0 b1 f0 f1 hb0 hRd HL1 HO1 w7_G w7_R; obtain ⟨b0, b1, f0, f1, hb0⟩ := box2 HL2.out.st.box; obtain ⟨j, rfl⟩ : ∃ j : Nat, z = j := ⟨z.toNat, by omega⟩; have hjl : j < l.length := (by omega); have hjI : (j:Int) < (l.length:Int) := (by omega); obtain ⟨xj, hxj⟩ := at_lt rfl hjl; have rj := (own_at HO2.out hxj).1; have HXJ := Lib.hid hxj; clear hxj)
                refine hK.out _ _ (by ((try dsimp only); (first | go_keep | exact ⟨b0, b1⟩))) (fun hHeld => ?_)
                clear hK K
                try simp only [List.getElem_toArray, List.getElem_cons_zero, List.getElem_cons_succ, Act.put, List.setIfInBounds_toArray, List.set_cons_zero, List.set_cons_succ]
                refine wpAnyH_take (i := 7) (oi := _) (v := ?_) rfl (by kernel_rfl) (by kernel_rfl) (by kernel_rfl) (fun _ _ _ h => h) (Or.inl ⟨by rfl, ?_⟩) (by assumption) ?_
                rotate_left
                focus (intro w hSw; (try dsimp only at hSw); go_simp; try (with_reducible rfl))
                try simp only [List.getElem_toArray, List.getElem_cons_zero, List.getElem_cons_succ, Act.put, List.setIfInBounds_toArray, List.set_cons_zero, List.set_cons_succ]
                refine wpAnyH_ready (rs := [8]) (by kernel_rfl) (by simp) ?_
                refine AllReadyH.cons (o := _) rfl (fun K hK => ?_) AllReadyH.nil
                go_simp
                refine hK.out _ _ (by ((try dsimp only); (first | go_keep | exact ⟨b0, b1⟩))) (fun hHeld => ?_)
                clear hK K
                try simp only [List.getElem_toArray, List.getElem_cons_zero, List.getElem_cons_succ, Act.put, List.setIfInBounds_toArray, List.set_cons_zero, List.set_cons_succ]
                refine wpAnyH_ready (rs := [9]) (by kernel_rfl) (by simp) ?_
                refine AllReadyH.cons (o := _) rfl (fun K hK => ?_) AllReadyH.nil
                go_simp
                (go_at_call 43; refine (sLinkOf n ls c xj _ _ (HV.out.only HL2.out.st.grown HVB.out)).mono ?_; rintro e w8 ⟨rfl, hb⟩; have HL3 := Lib.hid (HL2.out.below hb); clear b0 b1 f0 f1 hb0 rj HL2 HO2 hb; obtain ⟨b0, b1, f0, f1, hb0⟩ := box2 HL3.out.st.box; obtain ⟨lx, ly, hlb⟩ := HL3.out.lab; obtain ⟨p0, p1, g0, g1, hp⟩ := box2 hlb; have hwp : ¬ w.heap.size = P := (by have := HL3.out.far; omega))
                refine hK.out _ _ (by ((try dsimp only); (first | go_keep | exact ⟨b0, b1⟩))) (fun hHeld => ?_)
                clear hK K
                try simp only [List.getElem_toArray, List.getElem_cons_zero, List.getElem_cons_succ, Act.put, List.setIfInBounds_toArray, List.set_cons_zero, List.set_cons_succ]
                refine wpAnyH_take (i := 10) (oi := _) (v := ?_) rfl (by kernel_rfl) (by kernel_rfl) (by kernel_rfl) (fun _ _ _ h => h) (Or.inl ⟨by rfl, ?_⟩) (by assumption) ?_
                rotate_left
                focus (intro w hSw; (try dsimp only at hSw); go_simp; try (with_reducible rfl))
                try simp only [List.getElem_toArray, List.getElem_cons_zero, List.getElem_cons_succ, Act.put, List.setIfInBounds_toArray, List.set_cons_zero, List.set_cons_succ]
                refine wpAnyH_ready (rs := [11]) (by kernel_rfl) (by simp) ?_
                refine AllReadyH.cons (o := _) rfl (fun K hK => ?_) AllReadyH.nil
                go_simp
                (have HL4 := Lib.hid (HL3.out.set hB 2 (lkOf ls c xj)); clear b0 b1 f0 f1 hb0 p0 p1 g0 g1 hp hlb; obtain ⟨b0, b1, f0, f1, hb0⟩ := box2 HL4.out.st.box)
                refine hK.out _ _ (by ((try dsimp only); (first | go_keep | exact ⟨b0, b1⟩))) (fun hHeld => ?_)
                clear hK K
                try simp only [List.getElem_toArray, List.getElem_cons_zero, List.getElem_cons_succ, Act.put, List.setIfInBounds_toArray, List.set_cons_zero, List.set_cons_succ]
                refine wpAnyH_done (by kernel_rfl) ?_ _
                refine NoPanic.normal ?_
                go_wp2_with fail
                go_meet
                exact HL4.out.mono (by omega)
            case rest =>
              have HL := Lib.hid hcut
              have hRd := hcut.st.rd
              clear HO HQ hcut
              go_wp2_with fail
              apply pick_op
              · (with_reducible (repeat (first | assumption | apply rdLe_alloc | apply rdLe_drewN | apply rdLe_drew | apply rdLe_set | (apply rdLe_setCell; rotate_left; (focus (first | omega | (simp; done) | (simp; omega)))))))
              · exact by omega
              intro z w7 z_0 z_1 w7_R w7_G
              have HL1 := Lib.hid (HL.out.only hB w7_G w7_R)
              clear w7_G w7_R hRd HL
              go_upto_if 60 with fail
              go_cut [] (fun wc => LbW w B n (.slice va vm vcap) (m + 3 + 6 * k + 6) (.slice ha s.length hc) s P wc)
              case first =>
                rcases Bool.eq_false_or_eq_true (z == 0) with hz | hz
                rotate_left
                · go_wp2_with fail
                  go_meet
                  exact HL1.out.mono (by omega)
                go_wp2_with fail
                have hRd := HL1.out.st.rd
                apply pick_op
                · (with_reducible (repeat (first | assumption | apply rdLe_alloc | apply rdLe_drewN | apply rdLe_drew | apply rdLe_set | (apply rdLe_setCell; rotate_left; (focus (first | omega | (simp; done) | (simp; omega)))))))
                · exact by omega
                intro z1 w8 z1_0 z1_1 w8_R w8_G
                have HL2 := Lib.hid (HL1.out.only hB w8_G w8_R)
                clear w8_G w8_R hRd HL1
                go_wp2_with fail
                have hRd := HL2.out.st.rd
                apply pick_op
                · (with_reducible (repeat (first | assumption | apply rdLe_alloc | apply rdLe_drewN | apply rdLe_drew | apply rdLe_set | (apply rdLe_setCell; rotate_left; (focus (first | omega | (simp; done) | (simp; omega)))))))
                · exact by omega
                intro z2 w9 z2_0 z2_1 w9_R w9_G
                have HL3 := Lib.hid (HL2.out.only hB w9_G w9_R)
                clear w9_G w9_R hRd HL2
                have hz2 : IntKind.i64.wrap (z2 - 1) = z2 - 1 := IntWalk.i64_in _ (by omega)
                obtain ⟨lx, ly, hlb⟩ := HL3.out.lab
                obtain ⟨p0, p1, g0, g1, hp⟩ := box2 hlb
                have HL4 := Lib.hid (HL3.out.set hB z1 (z2 - 1))
                clear hlb
                go_wp2_with fail
                go_meet
                exact HL4.out.mono (by omega)
              case rest =>
                have HL := Lib.hid hcut
                clear HL1 hcut
                go_upto_region 15 with fail
                go_cut [7] (fun s7 wc => ∃ ha' hc' s', s7 = .slice ha' s'.length hc' ∧ s'.length = k + 1 ∧ StW w B n (.slice va vm vcap) (m + 3 + 6 * k + 6) (.slice ha' s'.length hc') s' wc ∧ ∃ x y : Int, Box wc P #[.int .i64 x, .int .i64 y] 56)
                case first =>
                  obtain ⟨lx, ly, hlb⟩ := HL.out.lab
                  obtain ⟨p0, p1, g0, g1, hp⟩ := box2 hlb
                  have HLB := Lib.hid hlb
                  clear hlb
                  have hPw := HL.out.far
                  have hws := HL.out.st.grown.size
                  have hs9 : s.length ≤ 9 := by have := HSL.out; omega
                  go_wp2_with (at_builtin; refine wpList_append_rd rfl _ _ _ rfl (w.heap.size + 1) 56 i0 _ 2 16 Try.underlying29 HI.out HZ0.out HZ1.out HZ2.out rfl (by omega) (.slice ha s.length hc) s.length (cells2 s) rfl (by with_reducible (repeat (first | exact HL.out.st.own | apply own_drewN | apply own_drew | apply World.ownsRow.alloc | (refine own_setCell ?_ (by first | (simp; done) | omega | (simp; omega)) _)))) (some ⟨wc.heap.size, 0, none⟩) 1 1 [.int .i64 lx, .int .i64 ly] rfl (srcAt_one (n := 1) (o := 2) (box_new _ #[.int .i64 lx, .int .i64 ly] _) rfl) (by simp [Value.oneCell']) (by unfold maxLen; omega) (by omega) (by simp; omega) ?_; intro v' w4 hown3 hgrow hloc)
                  go_meet
                  have hne := HL.out.ne
                  have hge := own_ge HL.out.st.own
                  have o4 : w4.ownsRow (w.heap.size + 1) 56 2 v' (s ++ [(lx, ly)]).length (cells2 (s ++ [(lx, ly)])) := by simpa [cells2_snoc] using hown3
                  obtain ⟨ha', hc', rfl⟩ := own_slice o4
                  refine ⟨ha', hc', s ++ [(lx, ly)], rfl, by rw [List.length_append, HSL.out]; rfl, ⟨?_, ?_, ?_, ?_⟩, lx, ly, ?_⟩
                  · exact rdLe_grown (rdLe_alloc HL.out.st.rd _) hgrow (fun j hj => by have := hge j hj; omega)
                  · exact o4
                  · exact (HL.out.st.box.alloc _).grown hgrow (fun j hj => by have := hge j hj; omega)
                  · exact only_grownG (only_alloc HL.out.st.grown _) hgrow (fun j hj => by have := hge j hj; omega)
                  · exact (HLB.out.alloc _).grown hgrow (fun j hj e => hne (hj.trans (by rw [e])))
                case rest =>
                  obtain ⟨ha', hc', s', rfl, hsl', hS, lx, ly, hlb⟩ := hcut
                  clear HL
                  have HS := Lib.hid hS
                  have HLB := Lib.hid hlb
                  have HSL' := Lib.hid hsl'
                  clear hS hlb hsl' HSL
                  obtain ⟨hg, hq⟩ : ∃ hg, gOk n ls = hg := ⟨_, rfl⟩
                  have HGK := Lib.hid hq
                  clear hq
                  go_upto_region 16 with fail
                  go_cut [77] (fun s77 wc => ∃ q, s77 = .bool q ∧ (q = true → GOk n ls ∧ nd n.toNat c) ∧ StW w B n (.slice va vm vcap) (m + 3 + 6 * k + 6) (.slice ha' s'.length hc') s' wc ∧ Box wc P #[.int .i64 lx, .int .i64 ly] 56)
                  case first =>
                    obtain ⟨b0, b1, f0, f1, hb0⟩ := box2 HS.out.box
                    go_wp2_with fail
                    refine (sGraphValid n ls _ _ (HV.out.only HS.out.grown HVB.out)).mono ?_
                    rw [HGK.out]
                    rintro e w5 ⟨rfl, hb⟩
                    have HS2 := Lib.hid (HS.out.below hb)
                    have HLB2 := Lib.hid (HLB.out.below hb HLB.out.lt)
                    clear hb HS HLB b0 b1 f0 f1 hb0
                    cases hg with
                    | false =>
                      go_wp2_with fail
                      go_meet
                      exact ⟨_, rfl, (fun h => by cases h), HS2.out, HLB2.out⟩
                    | true =>
                      have hG := gOk_iff.1 HGK.out
                      have hn1 := hG.n1
                      have hn8 := hG.n8
                      have HG := Lib.hid hG
                      clear hG
                      obtain ⟨b0, b1, f0, f1, hb0⟩ := box2 HS2.out.box
                      go_wp2_with fail
                      refine (sNode n c _ _ hn1 hn8).mono ?_
                      obtain ⟨q, hq⟩ : ∃ q, inB c 0 (n - 1) = q := ⟨_, rfl⟩
                      have HQ := Lib.hid hq
                      rw [hq]
                      clear hq
                      rintro e w6 ⟨rfl, hb⟩
                      have HS3 := Lib.hid (HS2.out.below hb)
                      have HLB3 := Lib.hid (HLB2.out.below hb HLB2.out.lt)
                      clear hb HS2 HLB2 b0 b1 f0 f1 hb0
                      go_wp2_with fail
                      go_meet
                      exact ⟨q, rfl, (fun h => ⟨HG.out, HG.out.nN.2 (by have := inB_iff.1 (HQ.out.trans h); omega)⟩), HS3.out, HLB3.out⟩
                  case rest =>
                    obtain ⟨q, rfl, hq, hS, hlb⟩ := hcut
                    clear HS HLB
                    have HS := Lib.hid hS
                    have HLB := Lib.hid hlb
                    have HQ := Lib.hid hq
                    clear hS hlb hq
                    cases q with
                    | false =>
                      go_wp2_with fail
                      go_roundw
                      case rel => exact ⟨k + 1, s', _, by omega, by go_num, HSL'.out, rfl, HS.out.mono (by omega)⟩
                      case measure => simp [intOf]; omega
                    | true =>
                      obtain ⟨hG, hc⟩ := HQ.out rfl
                      obtain ⟨b0, b1, f0, f1, hb0⟩ := box2 HS.out.box
                      obtain ⟨p0, p1, g0, g1, hp⟩ := box2 HLB.out
                      clear HQ
                      go_wp2_with fail
                      refine (sStep n ls c lx ly _ _ (HV.out.only HS.out.grown HVB.out) hG hc).mono ?_
                      unfold HopPost
                      obtain ⟨ok, hok⟩ : ∃ ok, (hopTo n ls c (lx, ly)).isSome = ok := ⟨_, rfl⟩
                      obtain ⟨tt, htt⟩ : ∃ tt, stepV n ls c (lx, ly) = tt := ⟨_, rfl⟩
                      rw [hok, htt]
                      clear hok htt hG hc
                      rintro e w6 ⟨rfl, hb⟩
                      have HS3 := Lib.hid (HS.out.below hb)
                      clear hb HS HLB b0 b1 f0 f1 hb0 p0 p1 g0 g1 hp
                      cases ok with
                      | false =>
                        go_wp2_with fail
                        go_roundw
                        case rel => exact ⟨k + 1, s', _, by omega, by go_num, HSL'.out, rfl, HS3.out.mono (by omega)⟩
                        case measure => simp [intOf]; omega
                      | true =>
                        go_wp2_with fail
                        go_roundw
                        case rel => exact ⟨k + 1, s', _, by omega, by go_num, HSL'.out, rfl, HS3.out.mono (by omega)⟩
                        case measure => simp [intOf]; omega
      · have t1 : decide ((k:Int) < (N:Int)) = false := by simp; omega
        clear hS hsl
        go_wp2_with fail
        go_ret
        exact ⟨_, s, rfl, by have := HSL.out; omega, (OwnR.of HS.out.own).mono (by omega) (Nat.le_refl _), rdLe_mono HS.out.rd (by omega), HS.out.grown⟩
end Go.Proofs.Ytoebefpmfgkpoaa
