/- The draw of a path: l91Path: some few nodes in new memory. -/
import Derived.Test.YtoebefpmfgkpoaaDrawSt
import Derived.Test.YtoebefpmfgkpoaaDrawN
import Derived.Test.YtoebefpmfgkpoaaSpI
import Derived.Test.YtoebefpmfgkpoaaCut
namespace Go.Proofs.Ytoebefpmfgkpoaa
set_option linter.unusedSimpArgs false
set_option linter.unusedVariables false
open Go.RowKit

def DrawPPost (w : World) (B : Nat) (m : Int) (e : Ending) (w' : World) : Prop :=
  ∃ (u : Value) (p : List Int), e = .returned u ∧ p.length ≤ 11 ∧ OwnR w' w.heap.size w'.heap.size 3 1 u p.length (p.map (Value.int .i64)) ∧ RdLe w' B (m + 40) ∧ w.grownBy w' (some B)
/-- What holds in l91Path: the reader, the nodes so far, the graph's box. -/
structure StP (w : World) (B : Nat) (n : Int) (gv : Value) (m : Int) (hv : Value) (p : List Int) (W : World) : Prop where
  rd : RdLe W B m
  own : W.ownsRow (w.heap.size + 1) 3 1 hv p.length (p.map (Value.int .i64))
  box : Box W w.heap.size #[.int .i64 n, gv] 25
  grown : w.grownBy W (some B)
section
variable {w : World} {B : Nat} {n : Int} {gv : Value} {m : Int} {hv : Value} {p : List Int} {W W' : World}
theorem StP.only (h : StP w B n gv m hv p W) (hB : B < w.heap.size) (hg : W.grownBy W' (some B)) {m' : Int} (hr : RdLe W' B m') : StP w B n gv m' hv p W' :=
  ⟨hr, own_only h.own hg (by omega), h.box.only hg (by omega), only_trans h.grown hg⟩
theorem StP.below (h : StP w B n gv m hv p W) (hb : Below W.heap.size W W') : StP w B n gv m hv p W' :=
  ⟨rdLe_below h.rd hb, ((OwnR.of h.own).below hb (Nat.le_refl _)).1, h.box.below hb h.box.lt, only_below h.grown hb⟩
theorem StP.mono (h : StP w B n gv m hv p W) {m' : Int} (hm : m ≤ m') : StP w B n gv m' hv p W := ⟨rdLe_mono h.rd hm, h.own, h.box, h.grown⟩
theorem StP.drew (h : StP w B n gv m hv p W) : StP w B n gv m hv p W.drew := ⟨rdLe_drew h.rd, own_drew h.own, h.box.drew, only_drew h.grown⟩
theorem StP.other (h : StP w B n gv m hv p W) {hv' : Value} {p' : List Int} (ho : W.ownsRow (w.heap.size + 1) 3 1 hv' p'.length (p'.map (Value.int .i64))) : StP w B n gv m hv' p' W := ⟨h.rd, ho, h.box, h.grown⟩
/-- Behind an append onto the nodes. -/
theorem StP.grow (h : StP w B n gv m hv p W) (hB : B < w.heap.size) {o : Obj} {x : Int} {v' : Value} (hown : W'.ownsRow (w.heap.size + 1) 3 1 v' (p.length + 1) (p.map (Value.int .i64) ++ [.int .i64 x])) (hg : (W.alloc o).grownBy W' hv.ownBlock) : StP w B n gv m v' (p ++ [x]) W' := by
  have hge := own_ge h.own
  refine ⟨rdLe_grown (rdLe_alloc h.rd _) hg (fun j hj => by have := hge j hj; omega), ?_, (h.box.alloc _).grown hg (fun j hj => by have := hge j hj; omega), only_grownG (only_alloc h.grown _) hg (fun j hj => by have := hge j hj; omega)⟩
  rw [map_snoc] at hown
  simpa using hown
end
theorem cutA_zero (A : Option Addr) (c size : Nat) : cutA A c 0 size = A := by
  unfold cutA
  split
  · rfl
  · cases A <;> simp [Addr.add]
theorem own_zero {w : World} {lo g n c : Nat} {t : TypeId} {size : Nat} {xs : List Value} (h : w.ownsRow lo t size (.slice (some ⟨g, 0, none⟩) n c) n xs) : w.ownsRow lo t size (.slice (some ⟨g, 0, none⟩) 0 c) 0 [] := by
  rcases h.2 with ⟨h0, _⟩ | ⟨g', cap, cur, e, h1, h2, h3, h4, h5, _⟩
  · cases h0
  · injection e with e1 _ e3
    injection e1 with e1
    injection e1 with e1 _ _
    subst e1
    subst e3
    exact ⟨by simp, .inr ⟨g, c, cur, rfl, h1, h2, Nat.zero_le _, h4, h5, by simp⟩⟩
set_option maxRecDepth 100000 in
set_option maxHeartbeats 4000000 in
theorem drawPath (B : Nat) (m n : Int) (ls : List LinkD) (v : Value) (w : World) (hv : TriplesAt w v ls) (hvB : v.ownBlock ≠ some B) (h : RdLe w B m) (hm : m < 1000000000) :
    Calls Try.prog 66 #[.pointer (some ⟨B, 0, none⟩), .agg #[.int .i64 n, v]] w (DrawPPost w B m) := by
  have hB := rdLe_lt h
  have HV := Lib.hid hv; have HVB := Lib.hid hvB
  obtain ⟨va, vm, vcap, rfl⟩ := hv.form
  obtain ⟨i0, hi, hz0, hz1, hz2⟩ := info_parts infoI
  have HI := Lib.hid hi; have HZ0 := Lib.hid hz0; have HZ1 := Lib.hid hz1; have HZ2 := Lib.hid hz2
  clear hv hvB hz0
  have hcut : ∀ (A : Option Addr) (k c : Nat) (W : World), (Instr.slice 26 (.slice A k c) none (some (.int .i64 0)) none).run Try.prog W = .ok (.slice A 0 c) W := fun A k c W => by have h1 := run_head (A := A) (n := k) (c := c) Try.underlying26 hi (k := 0) 0 rfl (by omega) W; rw [cutA_zero] at h1; exact h1
  have HCUT := Lib.hid hcut
  clear hi hz1 hz2 hcut
  go_enter Try.func66, Try.ntmps66
  have D0 := rdLe_alloc h (.cells #[.int .i64 n, .slice va vm vcap] 25)
  have G0 := only_alloc (only_refl w (some B)) (.cells #[.int .i64 n, .slice va vm vcap] 25)
  have A0 := box_new w #[.int .i64 n, .slice va vm vcap] 25
  have HD0 := Lib.hid D0; have HG0 := Lib.hid G0; have HA0 := Lib.hid A0
  clear D0 G0 A0 h
  go_upto_region 1 with fail
  go_cut [5] (fun s5 wc => ∃ g x : Int, ∃ P c : Nat, s5 = .slice (some ⟨P, 0, none⟩) 1 c ∧ StP w B n (.slice va vm vcap) (m + 1) (.slice (some ⟨P, 0, none⟩) 1 c) [x] wc)
  case first =>
    have hRd := HD0.out
    obtain ⟨b0, b1, f0, f1, hb0⟩ := box2 HA0.out
    by_cases h1 : 1 ≤ n
    all_goals
      first
        | have hmx : max n 1 = n := by omega
        | have hmx : max n 1 = 1 := by omega
      go_wp2_with fail
      apply pick_op
      · (with_reducible (repeat (first | assumption | apply rdLe_alloc | apply rdLe_drewN | apply rdLe_drew | apply rdLe_set | (apply rdLe_setCell; rotate_left; (focus (first | omega | (simp; done) | (simp; omega)))))))
      · exact by omega
      intro p w5 p_0 p_1 w5_R w5_G
      have A5 := HA0.out.only w5_G (by omega)
      have G5 := only_trans HG0.out w5_G
      have S5 : StP w B n (.slice va vm vcap) (m + 1) (.slice (some ⟨w5.heap.size, 0, none⟩) 1 1) [p] (w5.alloc (.cells #[.int .i64 p] 3)) :=
        ⟨rdLe_alloc w5_R _, own_lit1 (box_new _ _ _) (by have := A5.lt; omega), A5.alloc _, only_alloc G5 _⟩
      have HS5 := Lib.hid S5
      clear w5_G w5_R hRd b0 b1 f0 f1 hb0 hmx A5 G5 S5
      go_wp2_with fail
      go_meet
      exact ⟨0, p, _, _, rfl, HS5.out⟩
  case rest =>
    obtain ⟨_, x0, P, c0, rfl, hS⟩ := hcut
    have HS := Lib.hid hS
    have hRd := hS.rd
    clear hS HD0 HG0 HA0
    go_wp2_with fail
    apply pick_op
    · (with_reducible (repeat (first | assumption | apply rdLe_alloc | apply rdLe_drewN | apply rdLe_drew | apply rdLe_set | (apply rdLe_setCell; rotate_left; (focus (first | omega | (simp; done) | (simp; omega)))))))
    · exact by omega
    intro x w2 x_0 x_1 w2_R w2_G
    have HS2 := Lib.hid (HS.out.only hB w2_G w2_R)
    clear w2_G w2_R hRd HS
    go_wp2_with fail
    have hRd := HS2.out.rd
    apply pick_op
    · (with_reducible (repeat (first | assumption | apply rdLe_alloc | apply rdLe_drewN | apply rdLe_drew | apply rdLe_set | (apply rdLe_setCell; rotate_left; (focus (first | omega | (simp; done) | (simp; omega)))))))
    · exact by omega
    intro y w3 y_0 y_1 w3_R w3_G
    have HS3 := Lib.hid (HS2.out.only hB w3_G w3_R)
    clear w3_G w3_R hRd HS2
    go_upto_if 21 with fail
    go_cut [6] (fun s6 wc => ∃ N : Nat, N ≤ 9 ∧ s6 = .int .i64 N ∧ StP w B n (.slice va vm vcap) (m + 4) (.slice (some ⟨P, 0, none⟩) 1 c0) [x0] wc)
    case first =>
      rcases Bool.eq_false_or_eq_true (y == 0) with hy | hy
      · go_wp2_with fail
        have hRd := HS3.out.rd
        apply pick_op
        · (with_reducible (repeat (first | assumption | apply rdLe_alloc | apply rdLe_drewN | apply rdLe_drew | apply rdLe_set | (apply rdLe_setCell; rotate_left; (focus (first | omega | (simp; done) | (simp; omega)))))))
        · exact by omega
        intro z w4 z_0 z_1 w4_R w4_G
        have HS4 := Lib.hid (HS3.out.only hB w4_G w4_R)
        have hz : IntKind.i64.wrap (8 + z) = 8 + z := IntWalk.i64_in _ (by omega)
        clear w4_G w4_R hRd HS3
        go_wp2_with fail
        go_meet
        obtain ⟨N, hN⟩ : ∃ N : Nat, 8 + z = (N:Int) := ⟨(8 + z).toNat, by omega⟩
        exact ⟨N, by omega, by rw [hN], HS4.out.mono (by omega)⟩
      · go_wp2_with fail
        go_meet
        obtain ⟨N, hN⟩ : ∃ N : Nat, x = (N:Int) := ⟨x.toNat, by omega⟩
        exact ⟨N, by omega, by rw [hN], HS3.out.mono (by omega)⟩
    case rest =>
      obtain ⟨N, hN, rfl, hS⟩ := hcut
      have HS := Lib.hid hS
      clear HS3 hS x_0 x_1 y_0 y_1
      go_wp2_with fail
      go_loopw [5, 7] (fun ov i wr => ∃ (k : Nat) (p : List Int), k ≤ N ∧ i = .int .i64 k ∧ p.length = k + 1 ∧ StP w B n (.slice va vm vcap) (m + 4 + k) ov p wr) (fun _ i _ => N - (intOf i).toNat)
      case atStart => exact ⟨0, [x0], by omega, rfl, rfl, HS.out.mono (by omega)⟩
      case round =>
        obtain ⟨k, p, hk, rfl, hpl, hS⟩ := hrel
        clear HS
        obtain ⟨og, oc, rfl, hogl⟩ := own_pos hS.own (by omega)
        have HS := Lib.hid hS
        have HPL := Lib.hid hpl
        obtain ⟨b0, b1, f0, f1, hb0⟩ := box2 hS.box
        clear hS
        by_cases hkN : k < N
        · have t1 : decide ((k:Int) < (N:Int)) = true := by simp; omega
          obtain ⟨c, hc⟩ := at_lt (l := p) (n := p.length) rfl (k := k) (by omega)
          have r0 := (own_at HS.out.own hc).1
          have hkp : k < p.length := by omega
          have hkpI : (k:Int) < (p.length:Int) := by omega
          have hk0 : (0:Int) ≤ (k:Int) := by omega
          have hp10 : p.length ≤ 10 := by omega
          clear hc hpl
          go_wp2_with fail
          replace HS := Lib.hid HS.out.drew
          refine wp_region_noPanic ?_
          refine wp_region_held_drew (S := (fun w' => w'.cell? ⟨w.heap.size, 0, none⟩ = some (.int .i64 n) ∧ w'.cell? ⟨w.heap.size, 1, none⟩ = some (.slice va vm vcap) ∧ w'.cell? ⟨og, k, none⟩ = some (.int .i64 c))) (by kernel_rfl) (by ((try dsimp only); (first | go_keep | exact ⟨b0, b1, r0⟩))) (fun hHeld => ?_)
          refine wpAnyH_take (i := 0) (oi := _) (v := ?_) rfl (by kernel_rfl) (by kernel_rfl) (by kernel_rfl) (fun _ _ _ h => h) (Or.inl ⟨by rfl, ?_⟩) (by assumption) ?_
          rotate_left
          focus (intro w hSw; (try dsimp only at hSw); go_simp; try (with_reducible rfl))
          try simp only [List.getElem_toArray, List.getElem_cons_zero, List.getElem_cons_succ, Act.put, List.setIfInBounds_toArray, List.set_cons_zero, List.set_cons_succ]
          refine wpAnyH_take (i := 1) (oi := _) (v := ?_) rfl (by kernel_rfl) (by kernel_rfl) (by kernel_rfl) (fun _ _ _ h => h) (Or.inl ⟨by rfl, ?_⟩) (by assumption) ?_
          rotate_left
          focus (intro w hSw; (try dsimp only at hSw); go_simp; try (with_reducible rfl))
          try simp only [List.getElem_toArray, List.getElem_cons_zero, List.getElem_cons_succ, Act.put, List.setIfInBounds_toArray, List.set_cons_zero, List.set_cons_succ]
          refine wpAnyH_take (i := 2) (oi := _) (v := ?_) rfl (by kernel_rfl) (by kernel_rfl) (by kernel_rfl) (fun _ _ _ h => h) (Or.inl ⟨by rfl, ?_⟩) (by assumption) ?_
          rotate_left
          focus (intro w hSw; (try dsimp only at hSw); go_simp; try (with_reducible rfl))
          try simp only [List.getElem_toArray, List.getElem_cons_zero, List.getElem_cons_succ, Act.put, List.setIfInBounds_toArray, List.set_cons_zero, List.set_cons_succ]
          refine wpAnyH_take (i := 3) (oi := _) (v := ?_) rfl (by kernel_rfl) (by kernel_rfl) (by kernel_rfl) (fun _ _ _ h => h) (Or.inl ⟨by rfl, ?_⟩) (by assumption) ?_
          rotate_left
          focus (intro w hSw; (try dsimp only at hSw); go_simp; try (with_reducible rfl))
          try simp only [List.getElem_toArray, List.getElem_cons_zero, List.getElem_cons_succ, Act.put, List.setIfInBounds_toArray, List.set_cons_zero, List.set_cons_succ]
          refine wpAnyH_take (i := 4) (oi := _) (v := ?_) rfl (by kernel_rfl) (by kernel_rfl) (by kernel_rfl) (fun _ _ _ h => h) (Or.inl ⟨by rfl, ?_⟩) (by assumption) ?_
          rotate_left
          focus (intro w hSw; (try dsimp only at hSw); go_simp; try (with_reducible rfl))
          try simp only [List.getElem_toArray, List.getElem_cons_zero, List.getElem_cons_succ, Act.put, List.setIfInBounds_toArray, List.set_cons_zero, List.set_cons_succ]
          refine wpAnyH_ready (rs := [5]) (by kernel_rfl) (by simp) ?_
          refine AllReadyH.cons (o := _) rfl (fun K hK => ?_) AllReadyH.nil
          go_simp
          (go_at_call 88; refine (sGNb n ls c _ _ (HV.out.only HS.out.grown HVB.out)).mono ?_; rintro e w6 ⟨l, hl8, lv, rfl, hlo, hb⟩; have HLO := Lib.hid (hlo.mono (lo' := w.heap.size + 1) (by have := HS.out.box.lt; omega) (Nat.le_refl _)).1; replace HS := Lib.hid (HS.out.below hb); replace r0 := cell_below hb r0 (cell_lt r0); obtain ⟨lva, lvc, hlv⟩ := own_slice hlo.1; subst hlv; clear hb hlo b0 b1 f0 f1 hb0; obtain ⟨b0, b1, f0, f1, hb0⟩ := box2 HS.out.box)
          refine hK.out _ _ (by ((try dsimp only); (first | go_keep | exact ⟨b0, b1, r0⟩))) (fun hHeld => ?_)
          clear hK K
          try simp only [List.getElem_toArray, List.getElem_cons_zero, List.getElem_cons_succ, Act.put, List.setIfInBounds_toArray, List.set_cons_zero, List.set_cons_succ]
          refine wpAnyH_take (i := 6) (oi := _) (v := ?_) rfl (by kernel_rfl) (by kernel_rfl) (by kernel_rfl) (fun _ _ _ h => h) (Or.inl ⟨by rfl, ?_⟩) (by assumption) ?_
          rotate_left
          focus (intro w hSw; (try dsimp only at hSw); go_simp; try (with_reducible rfl))
          try simp only [List.getElem_toArray, List.getElem_cons_zero, List.getElem_cons_succ, Act.put, List.setIfInBounds_toArray, List.set_cons_zero, List.set_cons_succ]
          refine wpAnyH_done (by kernel_rfl) ?_ _
          refine NoPanic.normal ?_
          by_cases hl0 : l.length = 0
          · have t2 : ((l.length:Int) == 0) = true := by simpa using hl0
            have HL0 := Lib.hid hl0
            clear hl0
            go_wp2_with fail
            go_ret
            exact ⟨_, p, rfl, by have := HPL.out; omega, (OwnR.of HS.out.own).mono (by omega) (Nat.le_refl _), rdLe_mono HS.out.rd (by omega), HS.out.grown⟩
          · have t2 : ((l.length:Int) == 0) = false := by simpa using hl0
            obtain ⟨lg, lc, hlg, hlo⟩ := own_pos HLO.out (by omega)
            injection hlg with q1 q2 q3
            subst q1
            subst q3
            clear q2
            go_wp2_with fail
            have hRd := HS.out.rd
            apply pick_op
            · (with_reducible (repeat (first | assumption | apply rdLe_alloc | apply rdLe_drewN | apply rdLe_drew | apply rdLe_set | (apply rdLe_setCell; rotate_left; (focus (first | omega | (simp; done) | (simp; omega)))))))
            · exact by omega
            intro z w7 z_0 z_1 w7_R w7_G
            have HS2 := Lib.hid (HS.out.only hB w7_G w7_R)
            have HO2 := Lib.hid (own_only HLO.out w7_G (by omega))
            clear w7_G w7_R hRd HS HLO b0 b1 f0 f1 hb0 r0
            obtain ⟨j, rfl⟩ : ∃ j : Nat, z = j := ⟨z.toNat, by omega⟩
            have hjl : j < l.length := by omega
            have hjI : (j:Int) < (l.length:Int) := by omega
            obtain ⟨xj, hxj⟩ := at_lt rfl hjl
            have rj := (own_at HO2.out hxj).1
            have hws := HS2.out.box.lt
            clear hxj
            go_wp2_with (at_builtin; refine wpList_append_rd rfl _ _ _ rfl (w.heap.size + 1) 3 i0 _ 1 8 Try.underlying26 HI.out HZ0.out HZ1.out HZ2.out rfl (by omega) (.slice (some ⟨og, 0, none⟩) p.length oc) p.length (p.map (Value.int .i64)) rfl (by with_reducible (repeat (first | exact HS2.out.own | apply own_drewN | apply own_drew | apply World.ownsRow.alloc | (refine own_setCell ?_ (by first | (simp; done) | omega | (simp; omega)) _)))) (some ⟨w7.heap.size, 0, none⟩) 1 1 [.int .i64 xj] rfl (srcAt_one (box_new _ #[.int .i64 xj] _) rfl) (one_ok _ _) (by unfold maxLen; omega) (by omega) (by simp; omega) ?_; intro v' w8 hown3 hgrow hloc)
            go_roundw
            case rel => exact ⟨k + 1, p ++ [xj], by omega, by go_num, by rw [List.length_append, HPL.out]; rfl, (HS2.out.grow hB hown3 hgrow).mono (by omega)⟩
            case measure => simp [intOf]; omega
        · have t1 : decide ((k:Int) < (N:Int)) = false := by simp; omega
          have hRd := HS.out.rd
          have hp1 : 1 ≤ p.length := by omega
          have hp10 : p.length ≤ 10 := by omega
          clear hpl HPL
          go_wp2_with fail
          apply pick_op
          · (with_reducible (repeat (first | assumption | apply rdLe_alloc | apply rdLe_drewN | apply rdLe_drew | apply rdLe_set | (apply rdLe_setCell; rotate_left; (focus (first | omega | (simp; done) | (simp; omega)))))))
          · exact by omega
          intro z w7 z_0 z_1 w7_R w7_G
          have HS2 := Lib.hid (HS.out.only hB w7_G w7_R)
          clear w7_G w7_R hRd HS b0 b1 f0 f1 hb0
          go_upto_if 52 with fail
          go_cut [5] (fun s5 wc => ∃ g c p', s5 = .slice (some ⟨g, 0, none⟩) (List.length p') c ∧ 1 ≤ p'.length ∧ p'.length ≤ 10 ∧ StP w B n (.slice va vm vcap) (m + 17) (.slice (some ⟨g, 0, none⟩) p'.length c) p' wc)
          case first =>
            rcases Bool.eq_false_or_eq_true (z == 0) with hz | hz
            rotate_left
            · go_wp2_with fail
              go_meet
              exact ⟨og, oc, p, rfl, hp1, hp10, HS2.out.mono (by omega)⟩
            obtain ⟨b0, b1, f0, f1, hb0⟩ := box2 HS2.out.box
            go_wp2_with fail
            refine (drawNode B _ n _ _ ⟨_, _, _, rfl⟩ HS2.out.rd (by omega)).mono ?_
            rintro e w8 ⟨x, rfl, hR3, hG3⟩
            have HS3 := Lib.hid (HS2.out.only hB hG3 hR3)
            clear hG3 hR3 HS2 b0 b1 f0 f1 hb0
            obtain ⟨o0, ho0⟩ := at_lt (l := p) (n := p.length) rfl (k := 0) (by omega)
            have r0 := (own_at HS3.out.own ho0).1
            have hp0 : (0:Int) < (p.length:Int) := by omega
            have hp0' : 0 < p.length := by omega
            have HO0 := Lib.hid ho0
            clear ho0
            go_upto_region 14 with fail
            go_cut [69] (fun s69 wc => ∃ q, s69 = .bool q ∧ (q = true → GOk n ls ∧ nd n.toNat x ∧ nd n.toNat o0) ∧ StP w B n (.slice va vm vcap) (m + 17) (.slice (some ⟨og, 0, none⟩) p.length oc) p wc)
            case first =>
              obtain ⟨I, φ, h0, hφ, hmk⟩ := famOf (w8).heap.size (w8)
              haveI : Nonempty I := h0.elim fun i _ => ⟨i⟩
              have H0 := Lib.hid h0; have HF := Lib.hid hφ; have HMK := Lib.hid hmk; have HBs : Hid ((w8).heap.size ≤ (w8).heap.size) := Lib.hid (Nat.le_refl _)
              clear h0 hφ hmk
              obtain ⟨G_0, G_1, G_2, G_3, G_4⟩ := box2F fun i => HS3.out.box.below (HF.out i) HS3.out.box.lt
              have e0 : ∀ i, (φ i).cell? ⟨og, 0, none⟩ = some (.int .i64 o0) := fun i => cell_below (HF.out i) r0 (cell_lt r0)
              have HV3 := Lib.hid (HV.out.only HS3.out.grown HVB.out)
              obtain ⟨q1, hq1⟩ : ∃ q, gOk n ls = q := ⟨_, rfl⟩
              have HC1 : Hid (∀ i, Calls Try.prog 70 #[.agg #[.int .i64 n, .slice va vm vcap]] (φ i) fun e w' => e = .returned (.bool q1) ∧ Below (φ i).heap.size (φ i) w') := Lib.hid fun i => by rw [← hq1]; exact sGraphValid n ls _ _ (HV3.out.below (HF.out i) (Nat.le_refl _))
              have HQ1 := Lib.hid hq1
              clear hq1 r0
              cases q1 with
              | false =>
                refine wp_region_fam φ H0.out (by kernel_rfl) (by kernel_rfl) ?_
                repeat (go_big_quiet_step (first | (go_at_call 70; exact quiet_fam HF.out HBs.out HMK.out (HC1.out _))))
                refine wpQuiet_nil ?_
                intro _ hw'
                obtain ⟨nq, hw''⟩ := hw'
                subst hw''
                have hb := HF.out nq
                obtain ⟨w9, hw2⟩ : ∃ x, φ nq = x := ⟨_, rfl⟩
                rw [hw2] at hb ⊢
                clear hw2
                go_wp2_with fail
                go_meet
                exact ⟨_, rfl, (fun h => by cases h), (HS3.out.below hb).mono (by omega)⟩
              | true =>
                have hG := gOk_iff.1 HQ1.out
                have hn1 := hG.n1
                have hn8 := hG.n8
                have HG := Lib.hid hG
                obtain ⟨q2, hq2⟩ : ∃ q, inB x 0 (n - 1) = q := ⟨_, rfl⟩
                have HC2 : Hid (∀ i, Calls Try.prog 72 #[.agg #[.int .i64 n, .slice va vm vcap], .int .i64 x] (φ i) fun e w' => e = .returned (.bool q2) ∧ Below (φ i).heap.size (φ i) w') := Lib.hid fun i => by rw [← hq2]; exact sNode n x _ _ hn1 hn8
                have HQ2 := Lib.hid hq2
                clear hq2 hG
                cases q2 with
                | false =>
                  refine wp_region_fam φ H0.out (by kernel_rfl) (by kernel_rfl) ?_
                  repeat (go_big_quiet_step (first | (go_at_call 70; exact quiet_fam HF.out HBs.out HMK.out (HC1.out _)) | (go_at_call 72; exact quiet_fam HF.out HBs.out HMK.out (HC2.out _))))
                  refine wpQuiet_nil ?_
                  intro _ hw'
                  obtain ⟨nq, hw''⟩ := hw'
                  subst hw''
                  have hb := HF.out nq
                  obtain ⟨w9, hw2⟩ : ∃ x, φ nq = x := ⟨_, rfl⟩
                  rw [hw2] at hb ⊢
                  clear hw2
                  go_wp2_with fail
                  go_meet
                  exact ⟨_, rfl, (fun h => by cases h), (HS3.out.below hb).mono (by omega)⟩
                | true =>
                  obtain ⟨q3, hq3⟩ : ∃ q, inB o0 0 (n - 1) = q := ⟨_, rfl⟩
                  have HC3 : Hid (∀ i, Calls Try.prog 72 #[.agg #[.int .i64 n, .slice va vm vcap], .int .i64 o0] (φ i) fun e w' => e = .returned (.bool q3) ∧ Below (φ i).heap.size (φ i) w') := Lib.hid fun i => by rw [← hq3]; exact sNode n o0 _ _ hn1 hn8
                  have HQ3 := Lib.hid hq3
                  clear hq3
                  refine wp_region_fam φ H0.out (by kernel_rfl) (by kernel_rfl) ?_
                  repeat (go_big_quiet_step (first | (go_at_call 70; exact quiet_fam HF.out HBs.out HMK.out (HC1.out _)) | (go_at_call 72; first | exact quiet_fam HF.out HBs.out HMK.out (HC2.out _) | exact quiet_fam HF.out HBs.out HMK.out (HC3.out _))))
                  refine wpQuiet_nil ?_
                  intro _ hw'
                  obtain ⟨nq, hw''⟩ := hw'
                  subst hw''
                  have hb := HF.out nq
                  obtain ⟨w9, hw2⟩ : ∃ x, φ nq = x := ⟨_, rfl⟩
                  rw [hw2] at hb ⊢
                  clear hw2
                  go_wp2_with fail
                  go_meet
                  exact ⟨q3, rfl, (fun h => ⟨HG.out, HG.out.nN.2 (by have := inB_iff.1 HQ2.out; omega), HG.out.nN.2 (by have := inB_iff.1 (HQ3.out.trans h); omega)⟩), (HS3.out.below hb).mono (by omega)⟩
            case rest =>
              obtain ⟨q, rfl, hq, hS⟩ := hcut
              clear HS3 r0
              have HS := Lib.hid hS
              have HQ := Lib.hid hq
              clear hS hq
              cases q with
              | false =>
                go_wp2_with fail
                go_meet
                exact ⟨og, oc, p, rfl, hp1, hp10, HS.out⟩
              | true =>
                obtain ⟨hG, hx, ho⟩ := HQ.out rfl
                have hn8 := hG.n8
                have HG := Lib.hid hG; have HX := Lib.hid hx; have HO := Lib.hid ho
                obtain ⟨b0, b1, f0, f1, hb0⟩ := box2 HS.out.box
                have r0 := (own_at HS.out.own HO0.out).1
                obtain ⟨L, hL⟩ : ∃ L, shP n ls o0 x = L := ⟨_, rfl⟩
                have hL9 : L.length ≤ 9 := by
                  rw [← hL]; unfold shP
                  split
                  · have := spG_len n ls o0 x; simp; omega
                  · simp
                have HL := Lib.hid hL
                clear hL hG hx ho HQ
                go_wp2_with fail
                replace HS := Lib.hid HS.out.drew
                refine wp_region_noPanic ?_
                refine wp_region_held_drew (S := (fun w' => w'.cell? ⟨w.heap.size, 0, none⟩ = some (.int .i64 n) ∧ w'.cell? ⟨w.heap.size, 1, none⟩ = some (.slice va vm vcap) ∧ w'.cell? ⟨og, 0, none⟩ = some (.int .i64 o0))) (by kernel_rfl) (by ((try dsimp only); (first | go_keep | exact ⟨b0, b1, r0⟩))) (fun hHeld => ?_)
                refine wpAnyH_take (i := 0) (oi := _) (v := ?_) rfl (by kernel_rfl) (by kernel_rfl) (by kernel_rfl) (fun _ _ _ h => h) (Or.inl ⟨by rfl, ?_⟩) (by assumption) ?_
                rotate_left
                focus (intro w hSw; (try dsimp only at hSw); go_simp; try (with_reducible rfl))
                try simp only [List.getElem_toArray, List.getElem_cons_zero, List.getElem_cons_succ, Act.put, List.setIfInBounds_toArray, List.set_cons_zero, List.set_cons_succ]
                refine wpAnyH_take (i := 1) (oi := _) (v := ?_) rfl (by kernel_rfl) (by kernel_rfl) (by kernel_rfl) (fun _ _ _ h => h) (Or.inl ⟨by rfl, ?_⟩) (by assumption) ?_
                rotate_left
                focus (intro w hSw; (try dsimp only at hSw); go_simp; try (with_reducible rfl))
                try simp only [List.getElem_toArray, List.getElem_cons_zero, List.getElem_cons_succ, Act.put, List.setIfInBounds_toArray, List.set_cons_zero, List.set_cons_succ]
                refine wpAnyH_take (i := 2) (oi := _) (v := ?_) rfl (by kernel_rfl) (by kernel_rfl) (by kernel_rfl) (fun _ _ _ h => h) (Or.inl ⟨by rfl, ?_⟩) (by assumption) ?_
                rotate_left
                focus (intro w hSw; (try dsimp only at hSw); go_simp; try (with_reducible rfl))
                try simp only [List.getElem_toArray, List.getElem_cons_zero, List.getElem_cons_succ, Act.put, List.setIfInBounds_toArray, List.set_cons_zero, List.set_cons_succ]
                refine wpAnyH_take (i := 3) (oi := _) (v := ?_) rfl (by kernel_rfl) (by kernel_rfl) (by kernel_rfl) (fun _ _ _ h => h) (Or.inl ⟨by rfl, ?_⟩) (by assumption) ?_
                rotate_left
                focus (intro w hSw; (try dsimp only at hSw); go_simp; try (with_reducible rfl))
                try simp only [List.getElem_toArray, List.getElem_cons_zero, List.getElem_cons_succ, Act.put, List.setIfInBounds_toArray, List.set_cons_zero, List.set_cons_succ]
                refine wpAnyH_take (i := 4) (oi := _) (v := ?_) rfl (by kernel_rfl) (by kernel_rfl) (by kernel_rfl) (fun _ _ _ h => h) (Or.inl ⟨by rfl, ?_⟩) (by assumption) ?_
                rotate_left
                focus (intro w hSw; (try dsimp only at hSw); go_simp; try (with_reducible rfl))
                try simp only [List.getElem_toArray, List.getElem_cons_zero, List.getElem_cons_succ, Act.put, List.setIfInBounds_toArray, List.set_cons_zero, List.set_cons_succ]
                refine wpAnyH_ready (rs := [5]) (by kernel_rfl) (by simp) ?_
                refine AllReadyH.cons (o := _) rfl (fun K hK => ?_) AllReadyH.nil
                go_simp
                (go_at_call 54; refine (sPath n ls o0 x _ _ (HV.out.only HS.out.grown HVB.out) HG.out HO.out HX.out).mono ?_; rw [HL.out]; rintro e w6 ⟨lv, rfl, hlo, hb⟩; have HLO := Lib.hid (hlo.mono (lo' := w.heap.size + 1) (by have := HS.out.box.lt; omega) (Nat.le_refl _)).1; replace HS := Lib.hid (HS.out.below hb); replace r0 := cell_below hb r0 (cell_lt r0); obtain ⟨lva, lvc, hlv⟩ := own_slice hlo.1; subst hlv; clear hb hlo b0 b1 f0 f1 hb0; obtain ⟨b0, b1, f0, f1, hb0⟩ := box2 HS.out.box)
                refine hK.out _ _ (by ((try dsimp only); (first | go_keep | exact ⟨b0, b1, r0⟩))) (fun hHeld => ?_)
                clear hK K
                try simp only [List.getElem_toArray, List.getElem_cons_zero, List.getElem_cons_succ, Act.put, List.setIfInBounds_toArray, List.set_cons_zero, List.set_cons_succ]
                refine wpAnyH_take (i := 6) (oi := _) (v := ?_) rfl (by kernel_rfl) (by kernel_rfl) (by kernel_rfl) (fun _ _ _ h => h) (Or.inl ⟨by rfl, ?_⟩) (by assumption) ?_
                rotate_left
                focus (intro w hSw; (try dsimp only at hSw); go_simp; try (with_reducible rfl))
                try simp only [List.getElem_toArray, List.getElem_cons_zero, List.getElem_cons_succ, Act.put, List.setIfInBounds_toArray, List.set_cons_zero, List.set_cons_succ]
                refine wpAnyH_done (by kernel_rfl) ?_ _
                refine NoPanic.normal ?_
                by_cases hl0 : L.length = 0
                · have t2 : decide ((0:Int) < (L.length:Int)) = false := decide_eq_false (by omega)
                  have t3 : ¬ 0 < L.length := by omega
                  have HL0 := Lib.hid hl0
                  clear hl0
                  go_wp2_with fail
                  go_meet
                  exact ⟨og, oc, p, rfl, hp1, hp10, HS.out⟩
                · have t2 : decide ((0:Int) < (L.length:Int)) = true := decide_eq_true (by omega)
                  have t3 : 0 < L.length := by omega
                  obtain ⟨lg, lc, hlg, hlo⟩ := own_pos HLO.out (by omega)
                  injection hlg with q1 q2 q3
                  subst q1
                  subst q3
                  clear q2
                  go_wp2_with fail
                  go_meet
                  exact ⟨lg, lvc, L, rfl, by omega, by omega, HS.out.other HLO.out⟩
          case rest =>
            obtain ⟨g, c, p', rfl, hp1', hp10', hS⟩ := hcut
            clear HS2
            have HS := Lib.hid hS
            have hRd := hS.rd
            clear hS
            go_wp2_with fail
            apply pick_op
            · (with_reducible (repeat (first | assumption | apply rdLe_alloc | apply rdLe_drewN | apply rdLe_drew | apply rdLe_set | (apply rdLe_setCell; rotate_left; (focus (first | omega | (simp; done) | (simp; omega)))))))
            · exact by omega
            intro y w8 y_0 y_1 w8_R w8_G
            have HS2 := Lib.hid (HS.out.only hB w8_G w8_R)
            clear w8_G w8_R hRd HS
            rcases Bool.eq_false_or_eq_true (y == 0) with hy | hy
            · go_wp2_with fail
              have hRd := HS2.out.rd
              apply pick_op
              · (with_reducible (repeat (first | assumption | apply rdLe_alloc | apply rdLe_drewN | apply rdLe_drew | apply rdLe_set | (apply rdLe_setCell; rotate_left; (focus (first | omega | (simp; done) | (simp; omega)))))))
              · exact by omega
              intro x w9 x_0 x_1 w9_R w9_G
              have HS3 := Lib.hid (HS2.out.only hB w9_G w9_R)
              have hws := HS3.out.box.lt
              clear w9_G w9_R hRd HS2
              go_wp2_with (at_builtin; refine wpList_append_rd rfl _ _ _ rfl (w.heap.size + 1) 3 i0 _ 1 8 Try.underlying26 HI.out HZ0.out HZ1.out HZ2.out rfl (by omega) (.slice (some ⟨g, 0, none⟩) p'.length c) p'.length (p'.map (Value.int .i64)) rfl (by with_reducible (repeat (first | exact HS3.out.own | apply own_drewN | apply own_drew | apply World.ownsRow.alloc | (refine own_setCell ?_ (by first | (simp; done) | omega | (simp; omega)) _)))) (some ⟨w9.heap.size, 0, none⟩) 1 1 [.int .i64 x] rfl (srcAt_one (box_new _ #[.int .i64 x] _) rfl) (one_ok _ _) (by unfold maxLen; omega) (by omega) (by simp; omega) ?_; intro v' w8 hown3 hgrow hloc)
              have S4 := HS3.out.grow hB hown3 hgrow
              obtain ⟨va', vc', rfl⟩ := own_slice hown3
              go_ret
              exact ⟨_, p' ++ [x], rfl, by simp; omega, (OwnR.of S4.own).mono (by omega) (Nat.le_refl _), rdLe_mono S4.rd (by omega), S4.grown⟩
            · rcases Bool.eq_false_or_eq_true (y == 1) with hy1 | hy1
              · have hcut1 := HCUT.out (some ⟨g, 0, none⟩) p'.length c
                go_wp2_with fail
                go_ret
                exact ⟨_, [], rfl, by simp, (OwnR.of (own_zero HS2.out.own)).mono (by omega) (Nat.le_refl _), rdLe_mono HS2.out.rd (by omega), HS2.out.grown⟩
              · go_wp2_with fail
                go_ret
                exact ⟨_, p', rfl, by omega, (OwnR.of HS2.out.own).mono (by omega) (Nat.le_refl _), rdLe_mono HS2.out.rd (by omega), HS2.out.grown⟩
end Go.Proofs.Ytoebefpmfgkpoaa
