/- LsaOf of the program and of the reference: lsaR (mkls.py). -/
import Derived.Test.YtnnkdoomjkccgaaPureA
import Derived.Test.YtnnkdoomjkccgaaMd
import Derived.Test.YtnnkdoomjkccgaaNb
import Derived.Deep.RegionHeld3
namespace Go.Proofs.Ytnnkdoomjkccgaa
set_option linter.unusedSimpArgs false
set_option linter.unusedVariables false
open Go.RowKit

/-- An announcement under way: the graph's box, the box of the result, its own box, its ends in a row of their own. -/
structure LsL (w : World) (G R P L : Nat) (n : Int) (u : Value) (a s : Int) (hv : Value) (O : List (Int × Int)) (W : World) : Prop where
  row : W.ownsRow L 43 2 hv O.length (cells2 O)
  boxG : Box W G #[.int .i64 n, u] 26
  boxP : Box W P #[.int .i64 a, .int .i64 s, hv] 41
  boxR : Box W R #[.int .i64 0, .int .i64 0, .slice none 0 0] 41
  bw : Below w.heap.size w W
  gR : G < L ∧ R < L ∧ w.heap.size ≤ G ∧ w.heap.size ≤ R ∧ w.heap.size ≤ P ∧ w.heap.size ≤ L
  ne : G ≠ P ∧ R ≠ P ∧ G ≠ R
/-- What an append leaves of it. -/
structure LsK (w : World) (G R P L : Nat) (n : Int) (u : Value) (a s : Int) (hv : Value) (W W4 : World) : Prop where
  boxG : Box W4 G #[.int .i64 n, u] 26
  boxP : Box W4 P #[.int .i64 a, .int .i64 s, hv] 41
  boxR : Box W4 R #[.int .i64 0, .int .i64 0, .slice none 0 0] 41
  bw : Below w.heap.size w W4
  low : Below L W W4
section
variable {w : World} {G R P L : Nat} {n : Int} {u : Value} {a s : Int} {hv : Value} {O : List (Int × Int)} {W W' W4 : World}
theorem LsL.below (h : LsL w G R P L n u a s hv O W) (hb : Below W.heap.size W W') : LsL w G R P L n u a s hv O W' :=
  ⟨((OwnR.of h.row).below hb (Nat.le_refl _)).1, h.boxG.below hb h.boxG.lt, h.boxP.below hb h.boxP.lt, h.boxR.below hb h.boxR.lt, h.bw.trans (hb.mono h.bw.size), h.gR, h.ne⟩
theorem LsL.drew (h : LsL w G R P L n u a s hv O W) : LsL w G R P L n u a s hv O W.drew := h.below (Below.refl _ _).drew
theorem LsL.kept (h : LsL w G R P L n u a s hv O W) (hg : W.grownBy W4 hv.ownBlock) (hl : L ≤ W.heap.size) : LsK w G R P L n u a s hv W W4 := by
  have hge := own_ge h.row
  obtain ⟨g1, g2, g3, g4, g5, g6⟩ := h.gR
  exact ⟨h.boxG.grown hg fun i hi e => (by have := hge i hi; omega), h.boxP.grown hg fun i hi e => box_own_ne h.boxP h.row (by decide) (by rw [hi, e]), h.boxR.grown hg fun i hi e => (by have := hge i hi; omega), Below.grown h.bw hg h.bw.size fun i hi => (by have := hge i hi; omega), Below.grown (Below.refl _ _) hg hl fun i hi => hge i hi⟩
theorem LsL.snoc (h : LsL w G R P L n u a s hv O W) (hg : W.grownBy W4 hv.ownBlock) (hl : L ≤ W.heap.size) {v' : Value} {x y : Int} (ho : W4.ownsRow L 43 2 v' (O.length + 1) (cells2 O ++ [.int .i64 x, .int .i64 y])) :
    LsL w G R P L n u a s v' (O ++ [(x, y)]) (W4.setCell ⟨P, 2, none⟩ v') := by
  have k := h.kept hg hl
  have o4 : W4.ownsRow L 43 2 v' (O ++ [(x, y)]).length (cells2 (O ++ [(x, y)])) := by rw [List.length_append, cells2_snoc, List.append_assoc]; exact ho
  exact ⟨own_setOther o4 (a := ⟨P, 2, none⟩) (box_own_ne k.boxP o4 (by decide)) _, k.boxG.setOther (a := ⟨P, 2, none⟩) h.ne.1 _, box3_set2 k.boxP _, k.boxR.setOther (a := ⟨P, 2, none⟩) h.ne.2.1 _, k.bw.setCell (p := ⟨P, 2, none⟩) h.gR.2.2.2.2.1 _, h.gR, h.ne⟩
/-- The announcement in the result's box. -/
theorem LsL.out (h : LsL w G R P L n u a s hv O W) : OwnR (((W.setCell ⟨R, 0, none⟩ (.int .i64 a)).setCell ⟨R, 1, none⟩ (.int .i64 s)).setCell ⟨R, 2, none⟩ hv) w.heap.size (((W.setCell ⟨R, 0, none⟩ (.int .i64 a)).setCell ⟨R, 1, none⟩ (.int .i64 s)).setCell ⟨R, 2, none⟩ hv).heap.size 43 2 hv O.length (cells2 O) ∧ Below w.heap.size w (((W.setCell ⟨R, 0, none⟩ (.int .i64 a)).setCell ⟨R, 1, none⟩ (.int .i64 s)).setCell ⟨R, 2, none⟩ hv) ∧ Box (((W.setCell ⟨R, 0, none⟩ (.int .i64 a)).setCell ⟨R, 1, none⟩ (.int .i64 s)).setCell ⟨R, 2, none⟩ hv) R #[.int .i64 a, .int .i64 s, hv] 41 := by
  obtain ⟨g1, g2, g3, g4, g5, g6⟩ := h.gR
  exact ⟨(OwnR.of (own_setCell (own_setCell (own_setCell h.row (a := ⟨R, 0, none⟩) g2 _) (a := ⟨R, 1, none⟩) g2 _) (a := ⟨R, 2, none⟩) g2 _)).mono g6 (Nat.le_refl _), ((h.bw.setCell (p := ⟨R, 0, none⟩) g4 _).setCell (p := ⟨R, 1, none⟩) g4 _).setCell (p := ⟨R, 2, none⟩) g4 _, box3_set2 (box3_set1 (box3_set0 h.boxR _) _) _⟩
end
theorem endsN_yes {ls : List LinkD} {a z : Int} {k : Nat} (h : 0 ≤ lkOf ls a (k:Int)) (hz : cstL ls a (k:Int) = z) : endsN ls a (k + 1) = endsN ls a k ++ [((k:Int), z)] := by rw [endsN_succ, if_pos h, hz]
theorem endsN_no {ls : List LinkD} {a : Int} {k : Nat} (h : ¬ 0 ≤ lkOf ls a (k:Int)) : endsN ls a (k + 1) = endsN ls a k := by rw [endsN_succ, if_neg h, List.append_nil]
/-- The link that is found, at its place. -/
theorem lk_place {ls : List LinkD} {a b : Int} (h : 0 ≤ lkOf ls a b) : ∃ (i : Nat) (x y z : Int), lkOf ls a b = i ∧ ls[i]? = some (x, y, z) ∧ cstL ls a b = z := by
  rcases lk_cases ls a b with ⟨e, _, _⟩ | ⟨i, ⟨x, y, z⟩, e1, e2, _, e4⟩
  · omega
  · exact ⟨i, x, y, z, e1, e2, e4⟩
set_option maxRecDepth 100000 in
set_option maxHeartbeats 4000000 in
theorem sOf (n : Int) (ls : List LinkD) (a s : Int) (v : Value) (w : World) (hv : TriplesAt w v ls) (hn8 : n ≤ 8) :
    Calls Try.prog 59 #[.agg #[.int .i64 n, v], .int .i64 a, .int .i64 s] w (MadeLsa w a s (endsN ls a n.toNat)) := by
  have HV := Lib.hid hv
  obtain ⟨va, vcap, vb, voff, rfl, hvcap, hvmax, hva, hvc⟩ := hv
  unfold maxLen at hvmax
  obtain ⟨vm, hvm⟩ : ∃ m, m = ls.length := ⟨_, rfl⟩
  rw [← hvm] at hvcap hva HV ⊢
  have HVM := Lib.hid hvm; have HVC := Lib.hid hvc; have HVA := Lib.hid hva
  obtain ⟨i0, hi, hz0, hz1, hz2⟩ := info_parts infoE
  have HI := Lib.hid hi; have HZ0 := Lib.hid hz0; have HZ1 := Lib.hid hz1; have HZ2 := Lib.hid hz2
  clear hvm hvc hva hi hz0 hz1 hz2
  go_enter Try.func59, Try.ntmps59
  go_wp2_with fail
  obtain ⟨W1, hW1⟩ : ∃ W1, (((w.alloc (.cells #[.int .i64 n, .slice va vm vcap] 26)).alloc (.cells #[.int .i64 0, .int .i64 0, .slice none 0 0] 41)).alloc (.cells #[] 43)).alloc (.cells #[.int .i64 a, .int .i64 s, .slice (some ⟨w.heap.size + 1 + 1, 0, none⟩) 0 0] 41) = W1 := ⟨_, rfl⟩
  have hL0 : LsL w w.heap.size (w.heap.size + 1) (w.heap.size + 1 + 1 + 1) (w.heap.size + 2) n (.slice va vm vcap) a s (.slice (some ⟨w.heap.size + 1 + 1, 0, none⟩) 0 0) [] W1 := by
    rw [← hW1]
    exact ⟨World.ownsRow.alloc (own_new (by simp) (Nat.le_refl _)) _, (((box_new _ _ _).alloc _).alloc _).alloc _, box_at _ _ _ (by simp), ((box_at _ _ _ (by simp)).alloc _).alloc _, (by with_reducible (repeat (first | (refine below_drewN ?_ _) | (refine Below.drew ?_) | (refine below_alloc ?_ (by first | omega | (simp; done) | (simp; omega)) _) | (refine Below.setCell ?_ (by first | omega | (simp; done) | (simp; omega)) _) | exact Below.refl _ _ | assumption | (refine below_call ?_ (by first | omega | (simp; done) | (simp; omega)) (by assumption))))), by omega, by omega⟩
  have HL0 := Lib.hid hL0
  have hP1 : ¬ w.heap.size + 1 + 1 + 1 = w.heap.size := by omega
  rw [hW1]
  clear hL0 hW1
  obtain ⟨P, hP⟩ : ∃ P, w.heap.size + 1 + 1 + 1 = P := ⟨_, rfl⟩
  rw [hP] at HL0 hP1 ⊢
  have hPw : P = w.heap.size + 3 := by omega
  have HPW := Lib.hid hPw
  clear hP hPw
  go_loopw [8] (fun i wr => ∃ (k : Nat) (hv : Value), k ≤ n.toNat ∧ i = .int .i64 k ∧ LsL w w.heap.size (w.heap.size + 1) P (w.heap.size + 2) n (.slice va vm vcap) a s hv (endsN ls a k) wr) (fun i _ => n.toNat - (intOf i).toNat)
  case atStart => exact ⟨0, _, Nat.zero_le _, rfl, HL0.out⟩
  case round =>
    obtain ⟨k, hv, hk, rfl, hL⟩ := hrel
    clear HL0
    obtain ⟨O, hO⟩ : ∃ O, endsN ls a k = O := ⟨_, rfl⟩
    have hOl : O.length ≤ k := by rw [← hO]; exact endsN_len ls a k
    rw [hO] at hL
    have HO := Lib.hid hO
    have HL := Lib.hid hL
    clear hL hO
    obtain ⟨sa, sc, rfl⟩ := own_slice HL.out.row
    obtain ⟨b0, b1, f0, f1, hb0⟩ := box2 HL.out.boxG
    by_cases hkn : (k:Int) < n
    · have t0 : decide ((k:Int) < n) = true := decide_eq_true hkn
      go_wp2_with fail
      refine (sLinkOf n ls a (k:Int) _ _ (HV.out.below HL.out.bw (Nat.le_refl _))).mono ?_
      rintro e w2 ⟨rfl, hb⟩
      replace HL := Lib.hid (HL.out.below hb)
      clear hb b0 b1 f0 f1 hb0
      obtain ⟨b0, b1, f0, f1, hb0⟩ := box2 HL.out.boxG
      obtain ⟨c0, c1, c2, h0, h1, h2, hc0⟩ := box3 HL.out.boxP
      by_cases hy : 0 ≤ lkOf ls a (k:Int)
      · obtain ⟨i, x, y, z, hi, hl, hz⟩ := lk_place hy
        have HSN := Lib.hid (endsN_yes hy hz)
        rw [HO.out] at HSN
        have hil := (List.getElem?_eq_some_iff.1 hl).1
        have hva := HVA.out (by have := HVM.out; omega)
        subst hva
        have d2 := (HVC.out i x y z hl).2.2
        have hvbl := cell_lt d2
        replace d2 := cell_below HL.out.bw d2 hvbl
        have hbL : vb < w.heap.size + 2 := by omega
        have hPv : ¬ P = vb := by have := HPW.out; omega
        have hiI : (i:Int) < (vm:Int) := by have := HVM.out; omega
        have t1 : decide ((0:Int) ≤ (i:Int)) = true := decide_eq_true (by omega)
        rw [hi]
        clear hy hi hl hz hil
        go_wp2_with fail
        replace HL := Lib.hid HL.out.drew
        have hsz := HL.out.bw.size
        refine wp_region_noPanic ?_
        refine wp_region_held_drew (S := (fun w' => w'.cell? ⟨w.heap.size, 1, none⟩ = some (.slice (some ⟨vb, voff, none⟩) vm vcap) ∧ w'.cell? ⟨vb, voff + i * 3 + 2, none⟩ = some (.int .i64 z))) (by kernel_rfl) (by ((try dsimp only); (first | go_keep | exact ⟨b1, d2⟩))) (fun hHeld => ?_)
        obtain ⟨w3, hw3⟩ : ∃ W, w2.drew = W := ⟨_, rfl⟩
        have d2x : w2.drew.cell? ⟨vb, voff + i * 3 + 2, none⟩ = some (.int .i64 z) := d2
        rw [hw3] at HL d2x hHeld ⊢
        clear d2 hw3
        have d2 := d2x
        clear d2x
        clear b0 b1 f0 f1 hb0 c0 c1 c2 h0 h1 h2 hc0
        have _b := box2 HL.out.boxG; have b0 := _b.1; have b1 := _b.2.1; have f0 := _b.2.2.1; have f1 := _b.2.2.2.1; have hb0 := _b.2.2.2.2; clear _b
        have _c := box3 HL.out.boxP; have c0 := _c.1; have c1 := _c.2.1; have c2 := _c.2.2.1; have h0 := _c.2.2.2.1; have h1 := _c.2.2.2.2.1; have h2 := _c.2.2.2.2.2.1; have hc0 := _c.2.2.2.2.2.2; clear _c
        have hl3 : w.heap.size + 2 ≤ w3.heap.size := by have := HPW.out; have := HL.out.boxP.lt; omega
        refine wpAnyH_take (i := 0) (oi := _) (v := ?_) rfl (by kernel_rfl) (by kernel_rfl) (by kernel_rfl) (fun _ _ _ h => h) (Or.inl ⟨by rfl, ?_⟩) (by assumption) ?_
        rotate_left
        focus (intro w hSw; (try dsimp only at hSw); go_simp; try (with_reducible rfl))
        try simp only [List.getElem_toArray, List.getElem_cons_zero, List.getElem_cons_succ, Act.put, List.setIfInBounds_toArray, List.set_cons_zero, List.set_cons_succ]
        refine wpAnyH_take (i := 2) (oi := _) (v := ?_) rfl (by kernel_rfl) (by kernel_rfl) (by kernel_rfl) (fun _ _ _ h => h) (Or.inl ⟨by rfl, ?_⟩) (by assumption) ?_
        rotate_left
        focus (intro w hSw; (try dsimp only at hSw); go_simp; try (with_reducible rfl))
        try simp only [List.getElem_toArray, List.getElem_cons_zero, List.getElem_cons_succ, Act.put, List.setIfInBounds_toArray, List.set_cons_zero, List.set_cons_succ]
        refine wpAnyH_take (i := 3) (oi := _) (v := ?_) rfl (by kernel_rfl) (by kernel_rfl) (by kernel_rfl) (fun _ _ _ h => h) (Or.inl ⟨by rfl, ?_⟩) (by assumption) ?_
        rotate_left
        focus (intro w hSw; (try dsimp only at hSw); go_simp; try (with_reducible rfl))
        try simp only [List.getElem_toArray, List.getElem_cons_zero, List.getElem_cons_succ, Act.put, List.setIfInBounds_toArray, List.set_cons_zero, List.set_cons_succ]
        refine wpAnyH_take (i := 4) (oi := _) (v := ?_) rfl (by kernel_rfl) (by kernel_rfl) (by kernel_rfl) (fun _ _ _ h => h) (Or.inl ⟨by rfl, ?_⟩) (by assumption) ?_
        rotate_left
        focus (intro w hSw; (try dsimp only at hSw); go_simp; try (with_reducible rfl))
        try simp only [List.getElem_toArray, List.getElem_cons_zero, List.getElem_cons_succ, Act.put, List.setIfInBounds_toArray, List.set_cons_zero, List.set_cons_succ]
        refine wpAnyH_take (i := 5) (oi := _) (v := ?_) rfl (by kernel_rfl) (by kernel_rfl) (by kernel_rfl) (fun _ _ _ h => h) (Or.inl ⟨by rfl, ?_⟩) (by assumption) ?_
        rotate_left
        focus (intro w hSw; (try dsimp only at hSw); go_simp; try (with_reducible rfl))
        try simp only [List.getElem_toArray, List.getElem_cons_zero, List.getElem_cons_succ, Act.put, List.setIfInBounds_toArray, List.set_cons_zero, List.set_cons_succ]
        refine wpAnyH_take (i := 6) (oi := _) (v := ?_) rfl (by kernel_rfl) (by kernel_rfl) (by kernel_rfl) (fun _ _ _ h => h) (Or.inl ⟨by rfl, ?_⟩) (by assumption) ?_
        rotate_left
        focus (intro w hSw; (try dsimp only at hSw); go_simp; try (with_reducible rfl))
        try simp only [List.getElem_toArray, List.getElem_cons_zero, List.getElem_cons_succ, Act.put, List.setIfInBounds_toArray, List.set_cons_zero, List.set_cons_succ]
        refine wpAnyH_take (i := 7) (oi := _) (v := ?_) rfl (by kernel_rfl) (by kernel_rfl) (by kernel_rfl) (fun _ _ _ h => h) (Or.inl ⟨by rfl, ?_⟩) (by assumption) ?_
        rotate_left
        focus (intro w hSw; (try dsimp only at hSw); go_simp; try (with_reducible rfl))
        try simp only [List.getElem_toArray, List.getElem_cons_zero, List.getElem_cons_succ, Act.put, List.setIfInBounds_toArray, List.set_cons_zero, List.set_cons_succ]
        refine wpAnyH_take (i := 8) (oi := _) (v := ?_) rfl (by kernel_rfl) (by kernel_rfl) (by kernel_rfl) (fun _ _ _ h => h) (Or.inl ⟨by rfl, ?_⟩) (by assumption) ?_
        rotate_left
        focus (intro w hSw; (try dsimp only at hSw); go_simp; try (with_reducible rfl))
        try simp only [List.getElem_toArray, List.getElem_cons_zero, List.getElem_cons_succ, Act.put, List.setIfInBounds_toArray, List.set_cons_zero, List.set_cons_succ]
        refine wpAnyH_take (i := 9) (oi := _) (v := ?_) rfl (by kernel_rfl) (by kernel_rfl) (by kernel_rfl) (fun _ _ _ h => h) (Or.inl ⟨by rfl, ?_⟩) (by assumption) ?_
        rotate_left
        focus (intro w hSw; (try dsimp only at hSw); go_simp; try (with_reducible rfl))
        try simp only [List.getElem_toArray, List.getElem_cons_zero, List.getElem_cons_succ, Act.put, List.setIfInBounds_toArray, List.set_cons_zero, List.set_cons_succ]
        refine wpAnyH_ready (rs := [1, 10]) (by kernel_rfl) (by simp) ?_
        refine AllReadyH.cons (o := _) rfl (fun K hK => ?_) (AllReadyH.cons (o := _) rfl (fun K hK => ?_) AllReadyH.nil)
        · go_simp
          refine hK.out _ _ (by ((try dsimp only); (first | go_keep | exact ⟨b1, d2⟩))) (fun hHeld => ?_)
          clear hK K
          try simp only [List.getElem_toArray, List.getElem_cons_zero, List.getElem_cons_succ, Act.put, List.setIfInBounds_toArray, List.set_cons_zero, List.set_cons_succ]
          refine wpAnyH_ready (rs := [10]) (by kernel_rfl) (by simp) ?_
          refine AllReadyH.cons (o := _) rfl (fun K hK => ?_) AllReadyH.nil
          go_simp
          have SB := Lib.hid (box_new w3 #[.int .i64 (k:Int), .int .i64 z] 43)
          have hb : Below w3.heap.size w3 (w3.alloc (.cells #[.int .i64 (k:Int), .int .i64 z] 43)) := (Below.refl _ _).alloc (Nat.le_refl _) _
          have HL0 := Lib.hid HL.out
          replace HL := Lib.hid (HL.out.below hb)
          replace d2 := cell_below hb d2 (cell_lt d2)
          have hsz := HL.out.bw.size
          clear hb
          clear b0 b1 f0 f1 hb0 c0 c1 c2 h0 h1 h2 hc0
          have _b := box2 HL.out.boxG; have b0 := _b.1; have b1 := _b.2.1; have f0 := _b.2.2.1; have f1 := _b.2.2.2.1; have hb0 := _b.2.2.2.2; clear _b
          have _c := box3 HL.out.boxP; have c0 := _c.1; have c1 := _c.2.1; have c2 := _c.2.2.1; have h0 := _c.2.2.2.1; have h1 := _c.2.2.2.2.1; have h2 := _c.2.2.2.2.2.1; have hc0 := _c.2.2.2.2.2.2; clear _c
          have hlL : w.heap.size + 2 ≤ (w3.alloc (.cells #[.int .i64 (k:Int), .int .i64 z] 43)).heap.size := by simp; omega
          refine hK.out _ _ (by ((try dsimp only); (first | go_keep | exact ⟨b1, d2⟩))) (fun hHeld => ?_)
          clear hK K
          try simp only [List.getElem_toArray, List.getElem_cons_zero, List.getElem_cons_succ, Act.put, List.setIfInBounds_toArray, List.set_cons_zero, List.set_cons_succ]
          refine wpAnyH_ready (rs := [11]) (by kernel_rfl) (by simp) ?_
          refine AllReadyH.cons (o := _) rfl (fun K hK => ?_) AllReadyH.nil
          refine step_append_rd (by rfl) _ _ _ (by rfl) (w.heap.size + 2) 43 i0 _ 2 16 Try.underlying39 HI.out HZ0.out HZ1.out HZ2.out rfl (by omega) (.slice sa O.length sc) O.length (cells2 O) (by rfl) HL.out.row (some ⟨w3.heap.size, 0, none⟩) 1 1 [.int .i64 (k:Int), .int .i64 z] (by rfl) (srcAt_one (n := 1) (o := 2) SB.out rfl) (by simp [Value.oneCell']) (by unfold maxLen; omega) (by omega) (by simp; omega) ?_
          intro v' w7 hown hgrow hloc
          obtain ⟨na, nc, hna⟩ := own_slice hown
          subst hna
          have HB4 := Lib.hid (HL.out.kept hgrow hlL)
          replace d2 := cell_below HB4.out.low d2 hbL
          clear b0 b1 f0 f1 hb0 c0 c1 c2 h0 h1 h2 hc0
          have _b := box2 HB4.out.boxG; have b0 := _b.1; have b1 := _b.2.1; have f0 := _b.2.2.1; have f1 := _b.2.2.2.1; have hb0 := _b.2.2.2.2; clear _b
          have _c := box3 HB4.out.boxP; have c0 := _c.1; have c1 := _c.2.1; have c2 := _c.2.2.1; have h0 := _c.2.2.2.1; have h1 := _c.2.2.2.2.1; have h2 := _c.2.2.2.2.2.1; have hc0 := _c.2.2.2.2.2.2; clear _c
          refine hK.out _ _ (by ((try dsimp only); (first | go_keep | exact ⟨b1, d2⟩))) (fun hHeld => ?_)
          clear hK K
          try simp only [List.getElem_toArray, List.getElem_cons_zero, List.getElem_cons_succ, Act.put, List.setIfInBounds_toArray, List.set_cons_zero, List.set_cons_succ]
          refine wpAnyH_take (i := 12) (oi := _) (v := ?_) rfl (by kernel_rfl) (by kernel_rfl) (by kernel_rfl) (fun _ _ _ h => h) (Or.inl ⟨by rfl, ?_⟩) (by assumption) ?_
          rotate_left
          focus (intro w hSw; (try dsimp only at hSw); go_simp; try (with_reducible rfl))
          try simp only [List.getElem_toArray, List.getElem_cons_zero, List.getElem_cons_succ, Act.put, List.setIfInBounds_toArray, List.set_cons_zero, List.set_cons_succ]
          refine wpAnyH_ready (rs := [13]) (by kernel_rfl) (by simp) ?_
          refine AllReadyH.cons (o := _) rfl (fun K hK => ?_) AllReadyH.nil
          go_simp
          have HL5 := Lib.hid (HL.out.snoc hgrow hlL hown)
          clear b0 b1 f0 f1 hb0 c0 c1 c2 h0 h1 h2 hc0
          have _b := box2 HL5.out.boxG; have b0 := _b.1; have b1 := _b.2.1; have f0 := _b.2.2.1; have f1 := _b.2.2.2.1; have hb0 := _b.2.2.2.2; clear _b
          have _c := box3 HL5.out.boxP; have c0 := _c.1; have c1 := _c.2.1; have c2 := _c.2.2.1; have h0 := _c.2.2.2.1; have h1 := _c.2.2.2.2.1; have h2 := _c.2.2.2.2.2.1; have hc0 := _c.2.2.2.2.2.2; clear _c
          refine hK.out _ _ (by ((try dsimp only); (first | go_keep | exact ⟨b1, d2⟩))) (fun hHeld => ?_)
          clear hK K
          try simp only [List.getElem_toArray, List.getElem_cons_zero, List.getElem_cons_succ, Act.put, List.setIfInBounds_toArray, List.set_cons_zero, List.set_cons_succ]
          refine wpAnyH_done (by kernel_rfl) ?_ _
          refine NoPanic.normal ?_
          go_wp2_with fail
          go_roundw
          case rel => exact ⟨k + 1, _, by omega, by go_num, by rw [HSN.out]; exact HL5.out⟩
          case measure => simp [intOf]; omega
        · go_simp
          have SB := Lib.hid (box_new w3 #[.int .i64 (k:Int), .int .i64 z] 43)
          have hb : Below w3.heap.size w3 (w3.alloc (.cells #[.int .i64 (k:Int), .int .i64 z] 43)) := (Below.refl _ _).alloc (Nat.le_refl _) _
          have HL0 := Lib.hid HL.out
          replace HL := Lib.hid (HL.out.below hb)
          replace d2 := cell_below hb d2 (cell_lt d2)
          have hsz := HL.out.bw.size
          clear hb
          clear b0 b1 f0 f1 hb0 c0 c1 c2 h0 h1 h2 hc0
          have _b := box2 HL.out.boxG; have b0 := _b.1; have b1 := _b.2.1; have f0 := _b.2.2.1; have f1 := _b.2.2.2.1; have hb0 := _b.2.2.2.2; clear _b
          have _c := box3 HL.out.boxP; have c0 := _c.1; have c1 := _c.2.1; have c2 := _c.2.2.1; have h0 := _c.2.2.2.1; have h1 := _c.2.2.2.2.1; have h2 := _c.2.2.2.2.2.1; have hc0 := _c.2.2.2.2.2.2; clear _c
          have hlL : w.heap.size + 2 ≤ (w3.alloc (.cells #[.int .i64 (k:Int), .int .i64 z] 43)).heap.size := by simp; omega
          refine hK.out _ _ (by ((try dsimp only); (first | go_keep | exact ⟨b1, d2⟩))) (fun hHeld => ?_)
          clear hK K
          try simp only [List.getElem_toArray, List.getElem_cons_zero, List.getElem_cons_succ, Act.put, List.setIfInBounds_toArray, List.set_cons_zero, List.set_cons_succ]
          refine wpAnyH_ready (rs := [1]) (by kernel_rfl) (by simp) ?_
          refine AllReadyH.cons (o := _) rfl (fun K hK => ?_) AllReadyH.nil
          go_simp
          refine hK.out _ _ (by ((try dsimp only); (first | go_keep | exact ⟨b1, d2⟩))) (fun hHeld => ?_)
          clear hK K
          try simp only [List.getElem_toArray, List.getElem_cons_zero, List.getElem_cons_succ, Act.put, List.setIfInBounds_toArray, List.set_cons_zero, List.set_cons_succ]
          refine wpAnyH_ready (rs := [11]) (by kernel_rfl) (by simp) ?_
          refine AllReadyH.cons (o := _) rfl (fun K hK => ?_) AllReadyH.nil
          refine step_append_rd (by rfl) _ _ _ (by rfl) (w.heap.size + 2) 43 i0 _ 2 16 Try.underlying39 HI.out HZ0.out HZ1.out HZ2.out rfl (by omega) (.slice sa O.length sc) O.length (cells2 O) (by rfl) HL.out.row (some ⟨w3.heap.size, 0, none⟩) 1 1 [.int .i64 (k:Int), .int .i64 z] (by rfl) (srcAt_one (n := 1) (o := 2) SB.out rfl) (by simp [Value.oneCell']) (by unfold maxLen; omega) (by omega) (by simp; omega) ?_
          intro v' w7 hown hgrow hloc
          obtain ⟨na, nc, hna⟩ := own_slice hown
          subst hna
          have HB4 := Lib.hid (HL.out.kept hgrow hlL)
          replace d2 := cell_below HB4.out.low d2 hbL
          clear b0 b1 f0 f1 hb0 c0 c1 c2 h0 h1 h2 hc0
          have _b := box2 HB4.out.boxG; have b0 := _b.1; have b1 := _b.2.1; have f0 := _b.2.2.1; have f1 := _b.2.2.2.1; have hb0 := _b.2.2.2.2; clear _b
          have _c := box3 HB4.out.boxP; have c0 := _c.1; have c1 := _c.2.1; have c2 := _c.2.2.1; have h0 := _c.2.2.2.1; have h1 := _c.2.2.2.2.1; have h2 := _c.2.2.2.2.2.1; have hc0 := _c.2.2.2.2.2.2; clear _c
          refine hK.out _ _ (by ((try dsimp only); (first | go_keep | exact ⟨b1, d2⟩))) (fun hHeld => ?_)
          clear hK K
          try simp only [List.getElem_toArray, List.getElem_cons_zero, List.getElem_cons_succ, Act.put, List.setIfInBounds_toArray, List.set_cons_zero, List.set_cons_succ]
          refine wpAnyH_take (i := 12) (oi := _) (v := ?_) rfl (by kernel_rfl) (by kernel_rfl) (by kernel_rfl) (fun _ _ _ h => h) (Or.inl ⟨by rfl, ?_⟩) (by assumption) ?_
          rotate_left
          focus (intro w hSw; (try dsimp only at hSw); go_simp; try (with_reducible rfl))
          try simp only [List.getElem_toArray, List.getElem_cons_zero, List.getElem_cons_succ, Act.put, List.setIfInBounds_toArray, List.set_cons_zero, List.set_cons_succ]
          refine wpAnyH_ready (rs := [13]) (by kernel_rfl) (by simp) ?_
          refine AllReadyH.cons (o := _) rfl (fun K hK => ?_) AllReadyH.nil
          go_simp
          have HL5 := Lib.hid (HL.out.snoc hgrow hlL hown)
          clear b0 b1 f0 f1 hb0 c0 c1 c2 h0 h1 h2 hc0
          have _b := box2 HL5.out.boxG; have b0 := _b.1; have b1 := _b.2.1; have f0 := _b.2.2.1; have f1 := _b.2.2.2.1; have hb0 := _b.2.2.2.2; clear _b
          have _c := box3 HL5.out.boxP; have c0 := _c.1; have c1 := _c.2.1; have c2 := _c.2.2.1; have h0 := _c.2.2.2.1; have h1 := _c.2.2.2.2.1; have h2 := _c.2.2.2.2.2.1; have hc0 := _c.2.2.2.2.2.2; clear _c
          refine hK.out _ _ (by ((try dsimp only); (first | go_keep | exact ⟨b1, d2⟩))) (fun hHeld => ?_)
          clear hK K
          try simp only [List.getElem_toArray, List.getElem_cons_zero, List.getElem_cons_succ, Act.put, List.setIfInBounds_toArray, List.set_cons_zero, List.set_cons_succ]
          refine wpAnyH_done (by kernel_rfl) ?_ _
          refine NoPanic.normal ?_
          go_wp2_with fail
          go_roundw
          case rel => exact ⟨k + 1, _, by omega, by go_num, by rw [HSN.out]; exact HL5.out⟩
          case measure => simp [intOf]; omega
      · have HSN := Lib.hid (endsN_no hy)
        rw [HO.out] at HSN
        have t1 : decide (0 ≤ lkOf ls a (k:Int)) = false := decide_eq_false hy
        obtain ⟨y, hy2⟩ : ∃ y, lkOf ls a (k:Int) = y := ⟨_, rfl⟩
        rw [hy2] at t1 ⊢
        clear hy hy2
        go_wp2_with fail
        go_roundw
        case rel => exact ⟨k + 1, _, by omega, by go_num, by rw [HSN.out]; exact HL.out⟩
        case measure => simp [intOf]; omega
    · have t0 : decide ((k:Int) < n) = false := decide_eq_false hkn
      have hkN : k = n.toNat := by omega
      rw [hkN] at HO
      obtain ⟨c0, c1, c2, h0, h1, h2, hc0⟩ := box3 HL.out.boxP
      obtain ⟨e0, e1, e2, g0, g1, g2, he0⟩ := box3 HL.out.boxR
      have hPR : ¬ P = w.heap.size + 1 := by have := HPW.out; omega
      clear hkN
      go_wp2_with fail
      obtain ⟨o5, B5, R5⟩ := HL.out.out
      clear b0 b1 f0 f1 hb0 c0 c1 c2 h0 h1 h2 hc0 e0 e1 e2 g0 g1 g2 he0
      obtain ⟨e0, e1, e2, g0, g1, g2, he0⟩ := box3 R5
      apply bodyPost_ret
      · simp [results, Try.results59, go_sem, e0, e1, e2, g0, g1, g2, he0]
        rfl
      · rfl
      · rw [MadeLsa, HO.out]
        exact ⟨_, rfl, o5, B5⟩
/-- The ends of the first j neighbours. -/
def eN (ls : List LinkD) (a : Int) (p : List Int) (j : Nat) : List (Int × Int) := (p.take j).map fun m => (m, cstL ls a m)
theorem eN_succ {ls : List LinkD} {a m z : Int} {p : List Int} {j : Nat} (h : p[j]? = some m) (hz : cstL ls a m = z) : eN ls a p (j + 1) = eN ls a p j ++ [(m, z)] := by
  unfold eN
  rw [take_snoc_of h, List.map_append, ← hz]
  rfl
theorem eN_len (ls : List LinkD) (a : Int) (p : List Int) (j : Nat) : (eN ls a p j).length ≤ j := by unfold eN; rw [List.length_map, List.length_take]; omega
theorem eN_all {n : Int} {ls : List LinkD} (h : GOk n ls) (a : Int) : eN ls a (nbL n ls a) (nbL n ls a).length = endsN ls a n.toNat := by unfold eN; rw [List.take_length, endsN_nb h]
theorem nbL_len (n : Int) (ls : List LinkD) (a : Int) : (nbL n ls a).length ≤ n.toNat := by
  unfold nbL
  have h := List.length_filter_le (fun m => decide (0 < cstL ls a m)) (nodesL n.toNat)
  have h2 : (nodesL n.toNat).length = n.toNat := by simp [nodesL]
  omega
set_option maxRecDepth 100000 in
set_option maxHeartbeats 4000000 in
theorem iOf (n : Int) (ls : List LinkD) (a s : Int) (v : Value) (w : World) (hv : TriplesAt w v ls) (hg : GOk n ls) :
    Calls Try.prog 57 #[.agg #[.int .i64 n, v], .int .i64 a, .int .i64 s] w (MadeLsa w a s (endsN ls a n.toNat)) := by
  have HV := Lib.hid hv
  have HG := Lib.hid hg
  have hl14 : ls.length ≤ 1048576 := by have := hg.len; omega
  obtain ⟨va, vcap, vb, voff, rfl, hvcap, hvmax, hva, hvc⟩ := hv
  unfold maxLen at hvmax
  obtain ⟨vm, hvm⟩ : ∃ m, m = ls.length := ⟨_, rfl⟩
  rw [← hvm] at hvcap hva HV ⊢
  have HVM := Lib.hid hvm; have HVC := Lib.hid hvc; have HVA := Lib.hid hva
  obtain ⟨i0, hi, hz0, hz1, hz2⟩ := info_parts infoE
  have HI := Lib.hid hi; have HZ0 := Lib.hid hz0; have HZ1 := Lib.hid hz1; have HZ2 := Lib.hid hz2
  clear hvm hvc hva hi hz0 hz1 hz2 hg
  go_enter Try.func57, Try.ntmps57
  go_wp2_with fail
  obtain ⟨W1, hW1⟩ : ∃ W1, ((w.alloc (.cells #[.int .i64 n, .slice va vm vcap] 26)).alloc (.cells #[.int .i64 0, .int .i64 0, .slice none 0 0] 41)).alloc (.cells #[.int .i64 a, .int .i64 s, .slice none 0 0] 41) = W1 := ⟨_, rfl⟩
  have hL0 : LsL w w.heap.size (w.heap.size + 1) (w.heap.size + 1 + 1) (w.heap.size + 3) n (.slice va vm vcap) a s (.slice none 0 0) [] W1 := by
    rw [← hW1]
    exact ⟨⟨rfl, .inl ⟨rfl, rfl⟩⟩, ((box_new _ _ _).alloc _).alloc _, box_at _ _ _ (by simp), (box_at _ _ _ (by simp)).alloc _, (by with_reducible (repeat (first | (refine below_drewN ?_ _) | (refine Below.drew ?_) | (refine below_alloc ?_ (by first | omega | (simp; done) | (simp; omega)) _) | (refine Below.setCell ?_ (by first | omega | (simp; done) | (simp; omega)) _) | exact Below.refl _ _ | assumption | (refine below_call ?_ (by first | omega | (simp; done) | (simp; omega)) (by assumption))))), by omega, by omega⟩
  have HL0 := Lib.hid hL0
  have hP1 : ¬ w.heap.size + 1 + 1 = w.heap.size := by omega
  rw [hW1]
  clear hL0 hW1
  obtain ⟨P, hP⟩ : ∃ P, w.heap.size + 1 + 1 = P := ⟨_, rfl⟩
  rw [hP] at HL0 hP1 ⊢
  have hPw : P = w.heap.size + 2 := by omega
  have HPW := Lib.hid hPw
  clear hP hPw
  obtain ⟨p, hp⟩ : ∃ p, nbL n ls a = p := ⟨_, rfl⟩
  have HP := Lib.hid hp
  clear hp
  refine (iNb n ls a _ _ (HV.out.below HL0.out.bw (Nat.le_refl _)) HG.out).mono ?_
  rintro e w2 ⟨pv, rfl, hO, hb⟩
  rw [HP.out] at hO
  have hlo : w.heap.size + 3 ≤ W1.heap.size := by have := HL0.out.boxP.lt; have := HPW.out; omega
  have HPR0 := Lib.hid (hO.mono hlo (Nat.le_refl _)).1
  replace HL0 := Lib.hid (HL0.out.below hb)
  obtain ⟨pa, pc, rfl⟩ := own_slice hO.1
  obtain ⟨pm, hpm⟩ : ∃ m, m = p.length := ⟨_, rfl⟩
  have hpm8 : pm ≤ 100 := by rw [hpm, ← HP.out]; have h1 := nbL_len n ls a; have := HG.out.n8; omega
  rw [← hpm] at HPR0 ⊢
  have HPM := Lib.hid hpm
  clear hb hO hlo hpm
  go_wp2_with fail
  go_loopw [17] (fun i wr => ∃ (j : Nat) (hv : Value), j ≤ pm ∧ i = .int .i64 j ∧ LsL w w.heap.size (w.heap.size + 1) P (w.heap.size + 3) n (.slice va vm vcap) a s hv (eN ls a p j) wr ∧ wr.ownsRow (w.heap.size + 3) 3 1 (.slice pa pm pc) pm (p.map (Value.int .i64))) (fun i _ => pm - (intOf i).toNat)
  case atStart => exact ⟨0, _, Nat.zero_le _, rfl, HL0.out, HPR0.out⟩
  case round =>
    obtain ⟨j, hv, hj, rfl, hL, hR⟩ := hrel
    clear HL0 HPR0
    obtain ⟨O, hO⟩ : ∃ O, eN ls a p j = O := ⟨_, rfl⟩
    have hOl : O.length ≤ j := by rw [← hO]; exact eN_len ls a p j
    rw [hO] at hL
    have HO := Lib.hid hO
    have HL := Lib.hid hL
    have HPR := Lib.hid hR
    clear hL hO hR
    obtain ⟨sa, sc, rfl⟩ := own_slice HL.out.row
    by_cases hjn : j < pm
    · obtain ⟨m, hm⟩ := at_lt HPM.out hjn
      have hjI : (j:Int) < (pm:Int) := by omega
      obtain ⟨pb, pcc, hpe, hplo⟩ := own_pos HPR.out (by omega)
      injection hpe with hpe _ hpc
      subst hpe
      obtain ⟨r0, _⟩ := own_at HPR.out hm
      have hcp : 0 < cstL ls a m := (mem_nbL HG.out).1 (by rw [HP.out]; exact List.mem_of_getElem? hm)
      obtain ⟨i, x, y, z, hi, hl, hz⟩ := lk_place (HG.out.pos.2 hcp)
      have HSN := Lib.hid (eN_succ hm hz)
      rw [HO.out] at HSN
      have HKK := Lib.hid hi
      have hil := (List.getElem?_eq_some_iff.1 hl).1
      have hva := HVA.out (by have := HVM.out; omega)
      subst hva
      have d2 := (HVC.out i x y z hl).2.2
      have hvbl := cell_lt d2
      replace d2 := cell_below HL.out.bw d2 hvbl
      have hbL : vb < w.heap.size + 3 := by omega
      have hPv : ¬ P = vb := by have := HPW.out; omega
      have hiI : (i:Int) < (vm:Int) := by have := HVM.out; omega
      obtain ⟨b0, b1, f0, f1, hb0⟩ := box2 HL.out.boxG
      obtain ⟨c0, c1, c2, h0, h1, h2, hc0⟩ := box3 HL.out.boxP
      clear hi hl hz hil hm hcp hpc
      go_wp2_with fail
      replace HL := Lib.hid HL.out.drew
      replace HPR := Lib.hid (own_drew HPR.out)
      refine wp_region_noPanic ?_
      refine wp_region_held_drew (S := (fun w' => w'.cell? ⟨w.heap.size, 0, none⟩ = some (.int .i64 n) ∧ w'.cell? ⟨w.heap.size, 1, none⟩ = some (.slice (some ⟨vb, voff, none⟩) vm vcap) ∧ w'.cell? ⟨vb, voff + i * 3 + 2, none⟩ = some (.int .i64 z))) (by kernel_rfl) (by ((try dsimp only); (first | go_keep | exact ⟨b0, b1, d2⟩))) (fun hHeld => ?_)
      obtain ⟨w3, hw3⟩ : ∃ W, wr.drew = W := ⟨_, rfl⟩
      have d2x : wr.drew.cell? ⟨vb, voff + i * 3 + 2, none⟩ = some (.int .i64 z) := d2
      rw [hw3] at HL HPR d2x hHeld ⊢
      clear d2 hw3 r0
      have d2 := d2x
      clear d2x
      clear b0 b1 f0 f1 hb0 c0 c1 c2 h0 h1 h2 hc0
      have _b := box2 HL.out.boxG; have b0 := _b.1; have b1 := _b.2.1; have f0 := _b.2.2.1; have f1 := _b.2.2.2.1; have hb0 := _b.2.2.2.2; clear _b
      have _c := box3 HL.out.boxP; have c0 := _c.1; have c1 := _c.2.1; have c2 := _c.2.2.1; have h0 := _c.2.2.2.1; have h1 := _c.2.2.2.2.1; have h2 := _c.2.2.2.2.2.1; have hc0 := _c.2.2.2.2.2.2; clear _c
      refine wpAnyH_take (i := 0) (oi := _) (v := ?_) rfl (by kernel_rfl) (by kernel_rfl) (by kernel_rfl) (fun _ _ _ h => h) (Or.inl ⟨by rfl, ?_⟩) (by assumption) ?_
      rotate_left
      focus (intro w hSw; (try dsimp only at hSw); go_simp; try (with_reducible rfl))
      try simp only [List.getElem_toArray, List.getElem_cons_zero, List.getElem_cons_succ, Act.put, List.setIfInBounds_toArray, List.set_cons_zero, List.set_cons_succ]
      refine wpAnyH_take (i := 2) (oi := _) (v := ?_) rfl (by kernel_rfl) (by kernel_rfl) (by kernel_rfl) (fun _ _ _ h => h) (Or.inl ⟨by rfl, ?_⟩) (by assumption) ?_
      rotate_left
      focus (intro w hSw; (try dsimp only at hSw); go_simp; try (with_reducible rfl))
      try simp only [List.getElem_toArray, List.getElem_cons_zero, List.getElem_cons_succ, Act.put, List.setIfInBounds_toArray, List.set_cons_zero, List.set_cons_succ]
      refine wpAnyH_take (i := 3) (oi := _) (v := ?_) rfl (by kernel_rfl) (by kernel_rfl) (by kernel_rfl) (fun _ _ _ h => h) (Or.inl ⟨by rfl, ?_⟩) (by assumption) ?_
      rotate_left
      focus (intro w hSw; (try dsimp only at hSw); go_simp; try (with_reducible rfl))
      try simp only [List.getElem_toArray, List.getElem_cons_zero, List.getElem_cons_succ, Act.put, List.setIfInBounds_toArray, List.set_cons_zero, List.set_cons_succ]
      refine wpAnyH_take (i := 4) (oi := _) (v := ?_) rfl (by kernel_rfl) (by kernel_rfl) (by kernel_rfl) (fun _ _ _ h => h) (Or.inl ⟨by rfl, ?_⟩) (by assumption) ?_
      rotate_left
      focus (intro w hSw; (try dsimp only at hSw); go_simp; try (with_reducible rfl))
      try simp only [List.getElem_toArray, List.getElem_cons_zero, List.getElem_cons_succ, Act.put, List.setIfInBounds_toArray, List.set_cons_zero, List.set_cons_succ]
      refine wpAnyH_take (i := 5) (oi := _) (v := ?_) rfl (by kernel_rfl) (by kernel_rfl) (by kernel_rfl) (fun _ _ _ h => h) (Or.inl ⟨by rfl, ?_⟩) (by assumption) ?_
      rotate_left
      focus (intro w hSw; (try dsimp only at hSw); go_simp; try (with_reducible rfl))
      try simp only [List.getElem_toArray, List.getElem_cons_zero, List.getElem_cons_succ, Act.put, List.setIfInBounds_toArray, List.set_cons_zero, List.set_cons_succ]
      refine wpAnyH_take (i := 6) (oi := _) (v := ?_) rfl (by kernel_rfl) (by kernel_rfl) (by kernel_rfl) (fun _ _ _ h => h) (Or.inl ⟨by rfl, ?_⟩) (by assumption) ?_
      rotate_left
      focus (intro w hSw; (try dsimp only at hSw); go_simp; try (with_reducible rfl))
      try simp only [List.getElem_toArray, List.getElem_cons_zero, List.getElem_cons_succ, Act.put, List.setIfInBounds_toArray, List.set_cons_zero, List.set_cons_succ]
      refine wpAnyH_take (i := 7) (oi := _) (v := ?_) rfl (by kernel_rfl) (by kernel_rfl) (by kernel_rfl) (fun _ _ _ h => h) (Or.inl ⟨by rfl, ?_⟩) (by assumption) ?_
      rotate_left
      focus (intro w hSw; (try dsimp only at hSw); go_simp; try (with_reducible rfl))
      try simp only [List.getElem_toArray, List.getElem_cons_zero, List.getElem_cons_succ, Act.put, List.setIfInBounds_toArray, List.set_cons_zero, List.set_cons_succ]
      refine wpAnyH_ready (rs := [1, 8]) (by kernel_rfl) (by simp) ?_
      refine AllReadyH.cons (o := _) rfl (fun K hK => ?_) (AllReadyH.cons (o := _) rfl (fun K hK => ?_) AllReadyH.nil)
      · go_simp
        refine hK.out _ _ (by ((try dsimp only); (first | go_keep | exact ⟨b0, b1, d2⟩))) (fun hHeld => ?_)
        clear hK K
        try simp only [List.getElem_toArray, List.getElem_cons_zero, List.getElem_cons_succ, Act.put, List.setIfInBounds_toArray, List.set_cons_zero, List.set_cons_succ]
        refine wpAnyH_ready (rs := [8]) (by kernel_rfl) (by simp) ?_
        refine AllReadyH.cons (o := _) rfl (fun K hK => ?_) AllReadyH.nil
        go_simp
        go_at_call 53
        refine (iLinkOf n ls a m _ _ (HV.out.below HL.out.bw (Nat.le_refl _)) hl14).mono ?_
        rw [HKK.out]
        rintro e w4 ⟨rfl, hb⟩
        replace HL := Lib.hid (HL.out.below hb)
        replace HPR := Lib.hid ((OwnR.of HPR.out).below hb (Nat.le_refl _)).1
        replace d2 := cell_below hb d2 (cell_lt d2)
        clear hb
        clear b0 b1 f0 f1 hb0 c0 c1 c2 h0 h1 h2 hc0
        have _b := box2 HL.out.boxG; have b0 := _b.1; have b1 := _b.2.1; have f0 := _b.2.2.1; have f1 := _b.2.2.2.1; have hb0 := _b.2.2.2.2; clear _b
        have _c := box3 HL.out.boxP; have c0 := _c.1; have c1 := _c.2.1; have c2 := _c.2.2.1; have h0 := _c.2.2.2.1; have h1 := _c.2.2.2.2.1; have h2 := _c.2.2.2.2.2.1; have hc0 := _c.2.2.2.2.2.2; clear _c
        have hl4 : w.heap.size + 3 ≤ w4.heap.size := by have := HPW.out; have := HL.out.boxP.lt; omega
        refine hK.out _ _ (by ((try dsimp only); (first | go_keep | exact ⟨b0, b1, d2⟩))) (fun hHeld => ?_)
        clear hK K
        try simp only [List.getElem_toArray, List.getElem_cons_zero, List.getElem_cons_succ, Act.put, List.setIfInBounds_toArray, List.set_cons_zero, List.set_cons_succ]
        refine wpAnyH_take (i := 9) (oi := _) (v := ?_) rfl (by kernel_rfl) (by kernel_rfl) (by kernel_rfl) (fun _ _ _ h => h) (Or.inl ⟨by rfl, ?_⟩) (by assumption) ?_
        rotate_left
        focus (intro w hSw; (try dsimp only at hSw); go_simp; try (with_reducible rfl))
        try simp only [List.getElem_toArray, List.getElem_cons_zero, List.getElem_cons_succ, Act.put, List.setIfInBounds_toArray, List.set_cons_zero, List.set_cons_succ]
        refine wpAnyH_take (i := 10) (oi := _) (v := ?_) rfl (by kernel_rfl) (by kernel_rfl) (by kernel_rfl) (fun _ _ _ h => h) (Or.inl ⟨by rfl, ?_⟩) (by assumption) ?_
        rotate_left
        focus (intro w hSw; (try dsimp only at hSw); go_simp; try (with_reducible rfl))
        try simp only [List.getElem_toArray, List.getElem_cons_zero, List.getElem_cons_succ, Act.put, List.setIfInBounds_toArray, List.set_cons_zero, List.set_cons_succ]
        refine wpAnyH_take (i := 11) (oi := _) (v := ?_) rfl (by kernel_rfl) (by kernel_rfl) (by kernel_rfl) (fun _ _ _ h => h) (Or.inl ⟨by rfl, ?_⟩) (by assumption) ?_
        rotate_left
        focus (intro w hSw; (try dsimp only at hSw); go_simp; try (with_reducible rfl))
        try simp only [List.getElem_toArray, List.getElem_cons_zero, List.getElem_cons_succ, Act.put, List.setIfInBounds_toArray, List.set_cons_zero, List.set_cons_succ]
        refine wpAnyH_take (i := 12) (oi := _) (v := ?_) rfl (by kernel_rfl) (by kernel_rfl) (by kernel_rfl) (fun _ _ _ h => h) (Or.inl ⟨by rfl, ?_⟩) (by assumption) ?_
        rotate_left
        focus (intro w hSw; (try dsimp only at hSw); go_simp; try (with_reducible rfl))
        try simp only [List.getElem_toArray, List.getElem_cons_zero, List.getElem_cons_succ, Act.put, List.setIfInBounds_toArray, List.set_cons_zero, List.set_cons_succ]
        refine wpAnyH_ready (rs := [13]) (by kernel_rfl) (by simp) ?_
        refine AllReadyH.cons (o := _) rfl (fun K hK => ?_) AllReadyH.nil
        go_simp
        have SB := Lib.hid (box_new w4 #[.int .i64 m, .int .i64 z] 43)
        have hb : Below w4.heap.size w4 (w4.alloc (.cells #[.int .i64 m, .int .i64 z] 43)) := (Below.refl _ _).alloc (Nat.le_refl _) _
        have HL0 := Lib.hid HL.out
        replace HL := Lib.hid (HL.out.below hb)
        replace d2 := cell_below hb d2 (cell_lt d2)
        have hsz := HL.out.bw.size
        clear hb
        clear b0 b1 f0 f1 hb0 c0 c1 c2 h0 h1 h2 hc0
        have _b := box2 HL.out.boxG; have b0 := _b.1; have b1 := _b.2.1; have f0 := _b.2.2.1; have f1 := _b.2.2.2.1; have hb0 := _b.2.2.2.2; clear _b
        have _c := box3 HL.out.boxP; have c0 := _c.1; have c1 := _c.2.1; have c2 := _c.2.2.1; have h0 := _c.2.2.2.1; have h1 := _c.2.2.2.2.1; have h2 := _c.2.2.2.2.2.1; have hc0 := _c.2.2.2.2.2.2; clear _c
        replace HPR := Lib.hid (HPR.out.alloc (.cells #[.int .i64 m, .int .i64 z] 43))
        have hlL : w.heap.size + 3 ≤ (w4.alloc (.cells #[.int .i64 m, .int .i64 z] 43)).heap.size := by simp; omega
        refine hK.out _ _ (by ((try dsimp only); (first | go_keep | exact ⟨b0, b1, d2⟩))) (fun hHeld => ?_)
        clear hK K
        try simp only [List.getElem_toArray, List.getElem_cons_zero, List.getElem_cons_succ, Act.put, List.setIfInBounds_toArray, List.set_cons_zero, List.set_cons_succ]
        refine wpAnyH_ready (rs := [14]) (by kernel_rfl) (by simp) ?_
        refine AllReadyH.cons (o := _) rfl (fun K hK => ?_) AllReadyH.nil
        refine step_append_rd (by rfl) _ _ _ (by rfl) (w.heap.size + 3) 43 i0 _ 2 16 Try.underlying39 HI.out HZ0.out HZ1.out HZ2.out rfl (by omega) (.slice sa O.length sc) O.length (cells2 O) (by rfl) HL.out.row (some ⟨w4.heap.size, 0, none⟩) 1 1 [.int .i64 m, .int .i64 z] (by rfl) (srcAt_one (n := 1) (o := 2) SB.out rfl) (by simp [Value.oneCell']) (by unfold maxLen; omega) (by omega) (by simp; omega) ?_
        intro v' w7 hown hgrow hloc
        obtain ⟨na, nc, hna⟩ := own_slice hown
        subst hna
        have HB4 := Lib.hid (HL.out.kept hgrow hlL)
        replace d2 := cell_below HB4.out.low d2 hbL
        clear b0 b1 f0 f1 hb0 c0 c1 c2 h0 h1 h2 hc0
        have _b := box2 HB4.out.boxG; have b0 := _b.1; have b1 := _b.2.1; have f0 := _b.2.2.1; have f1 := _b.2.2.2.1; have hb0 := _b.2.2.2.2; clear _b
        have _c := box3 HB4.out.boxP; have c0 := _c.1; have c1 := _c.2.1; have c2 := _c.2.2.1; have h0 := _c.2.2.2.1; have h1 := _c.2.2.2.2.1; have h2 := _c.2.2.2.2.2.1; have hc0 := _c.2.2.2.2.2.2; clear _c
        replace HPR := Lib.hid ((OwnR.of HPR.out).kept hgrow (fun g hg => own_own_ne HPR.out HL.out.row (by decide) g hg)).1
        refine hK.out _ _ (by ((try dsimp only); (first | go_keep | exact ⟨b0, b1, d2⟩))) (fun hHeld => ?_)
        clear hK K
        try simp only [List.getElem_toArray, List.getElem_cons_zero, List.getElem_cons_succ, Act.put, List.setIfInBounds_toArray, List.set_cons_zero, List.set_cons_succ]
        refine wpAnyH_take (i := 15) (oi := _) (v := ?_) rfl (by kernel_rfl) (by kernel_rfl) (by kernel_rfl) (fun _ _ _ h => h) (Or.inl ⟨by rfl, ?_⟩) (by assumption) ?_
        rotate_left
        focus (intro w hSw; (try dsimp only at hSw); go_simp; try (with_reducible rfl))
        try simp only [List.getElem_toArray, List.getElem_cons_zero, List.getElem_cons_succ, Act.put, List.setIfInBounds_toArray, List.set_cons_zero, List.set_cons_succ]
        refine wpAnyH_ready (rs := [16]) (by kernel_rfl) (by simp) ?_
        refine AllReadyH.cons (o := _) rfl (fun K hK => ?_) AllReadyH.nil
        go_simp
        have HL5 := Lib.hid (HL.out.snoc hgrow hlL hown)
        clear b0 b1 f0 f1 hb0 c0 c1 c2 h0 h1 h2 hc0
        have _b := box2 HL5.out.boxG; have b0 := _b.1; have b1 := _b.2.1; have f0 := _b.2.2.1; have f1 := _b.2.2.2.1; have hb0 := _b.2.2.2.2; clear _b
        have _c := box3 HL5.out.boxP; have c0 := _c.1; have c1 := _c.2.1; have c2 := _c.2.2.1; have h0 := _c.2.2.2.1; have h1 := _c.2.2.2.2.1; have h2 := _c.2.2.2.2.2.1; have hc0 := _c.2.2.2.2.2.2; clear _c
        replace HPR := Lib.hid (own_setOther HPR.out (a := ⟨P, 2, none⟩) (box_own_ne HB4.out.boxP HPR.out (by decide)) (.slice na (O.length + 1) nc))
        refine hK.out _ _ (by ((try dsimp only); (first | go_keep | exact ⟨b0, b1, d2⟩))) (fun hHeld => ?_)
        clear hK K
        try simp only [List.getElem_toArray, List.getElem_cons_zero, List.getElem_cons_succ, Act.put, List.setIfInBounds_toArray, List.set_cons_zero, List.set_cons_succ]
        refine wpAnyH_done (by kernel_rfl) ?_ _
        refine NoPanic.normal ?_
        go_wp2_with fail
        go_roundw
        case rel => exact ⟨j + 1, _, by omega, by go_num, by rw [HSN.out]; exact HL5.out, HPR.out⟩
        case measure => simp [intOf]; omega
      · go_simp
        go_at_call 53
        refine (iLinkOf n ls a m _ _ (HV.out.below HL.out.bw (Nat.le_refl _)) hl14).mono ?_
        rw [HKK.out]
        rintro e w4 ⟨rfl, hb⟩
        replace HL := Lib.hid (HL.out.below hb)
        replace HPR := Lib.hid ((OwnR.of HPR.out).below hb (Nat.le_refl _)).1
        replace d2 := cell_below hb d2 (cell_lt d2)
        clear hb
        clear b0 b1 f0 f1 hb0 c0 c1 c2 h0 h1 h2 hc0
        have _b := box2 HL.out.boxG; have b0 := _b.1; have b1 := _b.2.1; have f0 := _b.2.2.1; have f1 := _b.2.2.2.1; have hb0 := _b.2.2.2.2; clear _b
        have _c := box3 HL.out.boxP; have c0 := _c.1; have c1 := _c.2.1; have c2 := _c.2.2.1; have h0 := _c.2.2.2.1; have h1 := _c.2.2.2.2.1; have h2 := _c.2.2.2.2.2.1; have hc0 := _c.2.2.2.2.2.2; clear _c
        have hl4 : w.heap.size + 3 ≤ w4.heap.size := by have := HPW.out; have := HL.out.boxP.lt; omega
        refine hK.out _ _ (by ((try dsimp only); (first | go_keep | exact ⟨b0, b1, d2⟩))) (fun hHeld => ?_)
        clear hK K
        try simp only [List.getElem_toArray, List.getElem_cons_zero, List.getElem_cons_succ, Act.put, List.setIfInBounds_toArray, List.set_cons_zero, List.set_cons_succ]
        refine wpAnyH_take (i := 9) (oi := _) (v := ?_) rfl (by kernel_rfl) (by kernel_rfl) (by kernel_rfl) (fun _ _ _ h => h) (Or.inl ⟨by rfl, ?_⟩) (by assumption) ?_
        rotate_left
        focus (intro w hSw; (try dsimp only at hSw); go_simp; try (with_reducible rfl))
        try simp only [List.getElem_toArray, List.getElem_cons_zero, List.getElem_cons_succ, Act.put, List.setIfInBounds_toArray, List.set_cons_zero, List.set_cons_succ]
        refine wpAnyH_take (i := 10) (oi := _) (v := ?_) rfl (by kernel_rfl) (by kernel_rfl) (by kernel_rfl) (fun _ _ _ h => h) (Or.inl ⟨by rfl, ?_⟩) (by assumption) ?_
        rotate_left
        focus (intro w hSw; (try dsimp only at hSw); go_simp; try (with_reducible rfl))
        try simp only [List.getElem_toArray, List.getElem_cons_zero, List.getElem_cons_succ, Act.put, List.setIfInBounds_toArray, List.set_cons_zero, List.set_cons_succ]
        refine wpAnyH_take (i := 11) (oi := _) (v := ?_) rfl (by kernel_rfl) (by kernel_rfl) (by kernel_rfl) (fun _ _ _ h => h) (Or.inl ⟨by rfl, ?_⟩) (by assumption) ?_
        rotate_left
        focus (intro w hSw; (try dsimp only at hSw); go_simp; try (with_reducible rfl))
        try simp only [List.getElem_toArray, List.getElem_cons_zero, List.getElem_cons_succ, Act.put, List.setIfInBounds_toArray, List.set_cons_zero, List.set_cons_succ]
        refine wpAnyH_take (i := 12) (oi := _) (v := ?_) rfl (by kernel_rfl) (by kernel_rfl) (by kernel_rfl) (fun _ _ _ h => h) (Or.inl ⟨by rfl, ?_⟩) (by assumption) ?_
        rotate_left
        focus (intro w hSw; (try dsimp only at hSw); go_simp; try (with_reducible rfl))
        try simp only [List.getElem_toArray, List.getElem_cons_zero, List.getElem_cons_succ, Act.put, List.setIfInBounds_toArray, List.set_cons_zero, List.set_cons_succ]
        refine wpAnyH_ready (rs := [1, 13]) (by kernel_rfl) (by simp) ?_
        refine AllReadyH.cons (o := _) rfl (fun K hK => ?_) (AllReadyH.cons (o := _) rfl (fun K hK => ?_) AllReadyH.nil)
        · go_simp
          refine hK.out _ _ (by ((try dsimp only); (first | go_keep | exact ⟨b0, b1, d2⟩))) (fun hHeld => ?_)
          clear hK K
          try simp only [List.getElem_toArray, List.getElem_cons_zero, List.getElem_cons_succ, Act.put, List.setIfInBounds_toArray, List.set_cons_zero, List.set_cons_succ]
          refine wpAnyH_ready (rs := [13]) (by kernel_rfl) (by simp) ?_
          refine AllReadyH.cons (o := _) rfl (fun K hK => ?_) AllReadyH.nil
          go_simp
          have SB := Lib.hid (box_new w4 #[.int .i64 m, .int .i64 z] 43)
          have hb : Below w4.heap.size w4 (w4.alloc (.cells #[.int .i64 m, .int .i64 z] 43)) := (Below.refl _ _).alloc (Nat.le_refl _) _
          have HL0 := Lib.hid HL.out
          replace HL := Lib.hid (HL.out.below hb)
          replace d2 := cell_below hb d2 (cell_lt d2)
          have hsz := HL.out.bw.size
          clear hb
          clear b0 b1 f0 f1 hb0 c0 c1 c2 h0 h1 h2 hc0
          have _b := box2 HL.out.boxG; have b0 := _b.1; have b1 := _b.2.1; have f0 := _b.2.2.1; have f1 := _b.2.2.2.1; have hb0 := _b.2.2.2.2; clear _b
          have _c := box3 HL.out.boxP; have c0 := _c.1; have c1 := _c.2.1; have c2 := _c.2.2.1; have h0 := _c.2.2.2.1; have h1 := _c.2.2.2.2.1; have h2 := _c.2.2.2.2.2.1; have hc0 := _c.2.2.2.2.2.2; clear _c
          replace HPR := Lib.hid (HPR.out.alloc (.cells #[.int .i64 m, .int .i64 z] 43))
          have hlL : w.heap.size + 3 ≤ (w4.alloc (.cells #[.int .i64 m, .int .i64 z] 43)).heap.size := by simp; omega
          refine hK.out _ _ (by ((try dsimp only); (first | go_keep | exact ⟨b0, b1, d2⟩))) (fun hHeld => ?_)
          clear hK K
          try simp only [List.getElem_toArray, List.getElem_cons_zero, List.getElem_cons_succ, Act.put, List.setIfInBounds_toArray, List.set_cons_zero, List.set_cons_succ]
          refine wpAnyH_ready (rs := [14]) (by kernel_rfl) (by simp) ?_
          refine AllReadyH.cons (o := _) rfl (fun K hK => ?_) AllReadyH.nil
          refine step_append_rd (by rfl) _ _ _ (by rfl) (w.heap.size + 3) 43 i0 _ 2 16 Try.underlying39 HI.out HZ0.out HZ1.out HZ2.out rfl (by omega) (.slice sa O.length sc) O.length (cells2 O) (by rfl) HL.out.row (some ⟨w4.heap.size, 0, none⟩) 1 1 [.int .i64 m, .int .i64 z] (by rfl) (srcAt_one (n := 1) (o := 2) SB.out rfl) (by simp [Value.oneCell']) (by unfold maxLen; omega) (by omega) (by simp; omega) ?_
          intro v' w7 hown hgrow hloc
          obtain ⟨na, nc, hna⟩ := own_slice hown
          subst hna
          have HB4 := Lib.hid (HL.out.kept hgrow hlL)
          replace d2 := cell_below HB4.out.low d2 hbL
          clear b0 b1 f0 f1 hb0 c0 c1 c2 h0 h1 h2 hc0
          have _b := box2 HB4.out.boxG; have b0 := _b.1; have b1 := _b.2.1; have f0 := _b.2.2.1; have f1 := _b.2.2.2.1; have hb0 := _b.2.2.2.2; clear _b
          have _c := box3 HB4.out.boxP; have c0 := _c.1; have c1 := _c.2.1; have c2 := _c.2.2.1; have h0 := _c.2.2.2.1; have h1 := _c.2.2.2.2.1; have h2 := _c.2.2.2.2.2.1; have hc0 := _c.2.2.2.2.2.2; clear _c
          replace HPR := Lib.hid ((OwnR.of HPR.out).kept hgrow (fun g hg => own_own_ne HPR.out HL.out.row (by decide) g hg)).1
          refine hK.out _ _ (by ((try dsimp only); (first | go_keep | exact ⟨b0, b1, d2⟩))) (fun hHeld => ?_)
          clear hK K
          try simp only [List.getElem_toArray, List.getElem_cons_zero, List.getElem_cons_succ, Act.put, List.setIfInBounds_toArray, List.set_cons_zero, List.set_cons_succ]
          refine wpAnyH_take (i := 15) (oi := _) (v := ?_) rfl (by kernel_rfl) (by kernel_rfl) (by kernel_rfl) (fun _ _ _ h => h) (Or.inl ⟨by rfl, ?_⟩) (by assumption) ?_
          rotate_left
          focus (intro w hSw; (try dsimp only at hSw); go_simp; try (with_reducible rfl))
          try simp only [List.getElem_toArray, List.getElem_cons_zero, List.getElem_cons_succ, Act.put, List.setIfInBounds_toArray, List.set_cons_zero, List.set_cons_succ]
          refine wpAnyH_ready (rs := [16]) (by kernel_rfl) (by simp) ?_
          refine AllReadyH.cons (o := _) rfl (fun K hK => ?_) AllReadyH.nil
          go_simp
          have HL5 := Lib.hid (HL.out.snoc hgrow hlL hown)
          clear b0 b1 f0 f1 hb0 c0 c1 c2 h0 h1 h2 hc0
          have _b := box2 HL5.out.boxG; have b0 := _b.1; have b1 := _b.2.1; have f0 := _b.2.2.1; have f1 := _b.2.2.2.1; have hb0 := _b.2.2.2.2; clear _b
          have _c := box3 HL5.out.boxP; have c0 := _c.1; have c1 := _c.2.1; have c2 := _c.2.2.1; have h0 := _c.2.2.2.1; have h1 := _c.2.2.2.2.1; have h2 := _c.2.2.2.2.2.1; have hc0 := _c.2.2.2.2.2.2; clear _c
          replace HPR := Lib.hid (own_setOther HPR.out (a := ⟨P, 2, none⟩) (box_own_ne HB4.out.boxP HPR.out (by decide)) (.slice na (O.length + 1) nc))
          refine hK.out _ _ (by ((try dsimp only); (first | go_keep | exact ⟨b0, b1, d2⟩))) (fun hHeld => ?_)
          clear hK K
          try simp only [List.getElem_toArray, List.getElem_cons_zero, List.getElem_cons_succ, Act.put, List.setIfInBounds_toArray, List.set_cons_zero, List.set_cons_succ]
          refine wpAnyH_done (by kernel_rfl) ?_ _
          refine NoPanic.normal ?_
          go_wp2_with fail
          go_roundw
          case rel => exact ⟨j + 1, _, by omega, by go_num, by rw [HSN.out]; exact HL5.out, HPR.out⟩
          case measure => simp [intOf]; omega
        · go_simp
          have SB := Lib.hid (box_new w4 #[.int .i64 m, .int .i64 z] 43)
          have hb : Below w4.heap.size w4 (w4.alloc (.cells #[.int .i64 m, .int .i64 z] 43)) := (Below.refl _ _).alloc (Nat.le_refl _) _
          have HL0 := Lib.hid HL.out
          replace HL := Lib.hid (HL.out.below hb)
          replace d2 := cell_below hb d2 (cell_lt d2)
          have hsz := HL.out.bw.size
          clear hb
          clear b0 b1 f0 f1 hb0 c0 c1 c2 h0 h1 h2 hc0
          have _b := box2 HL.out.boxG; have b0 := _b.1; have b1 := _b.2.1; have f0 := _b.2.2.1; have f1 := _b.2.2.2.1; have hb0 := _b.2.2.2.2; clear _b
          have _c := box3 HL.out.boxP; have c0 := _c.1; have c1 := _c.2.1; have c2 := _c.2.2.1; have h0 := _c.2.2.2.1; have h1 := _c.2.2.2.2.1; have h2 := _c.2.2.2.2.2.1; have hc0 := _c.2.2.2.2.2.2; clear _c
          replace HPR := Lib.hid (HPR.out.alloc (.cells #[.int .i64 m, .int .i64 z] 43))
          have hlL : w.heap.size + 3 ≤ (w4.alloc (.cells #[.int .i64 m, .int .i64 z] 43)).heap.size := by simp; omega
          refine hK.out _ _ (by ((try dsimp only); (first | go_keep | exact ⟨b0, b1, d2⟩))) (fun hHeld => ?_)
          clear hK K
          try simp only [List.getElem_toArray, List.getElem_cons_zero, List.getElem_cons_succ, Act.put, List.setIfInBounds_toArray, List.set_cons_zero, List.set_cons_succ]
          refine wpAnyH_ready (rs := [1]) (by kernel_rfl) (by simp) ?_
          refine AllReadyH.cons (o := _) rfl (fun K hK => ?_) AllReadyH.nil
          go_simp
          refine hK.out _ _ (by ((try dsimp only); (first | go_keep | exact ⟨b0, b1, d2⟩))) (fun hHeld => ?_)
          clear hK K
          try simp only [List.getElem_toArray, List.getElem_cons_zero, List.getElem_cons_succ, Act.put, List.setIfInBounds_toArray, List.set_cons_zero, List.set_cons_succ]
          refine wpAnyH_ready (rs := [14]) (by kernel_rfl) (by simp) ?_
          refine AllReadyH.cons (o := _) rfl (fun K hK => ?_) AllReadyH.nil
          refine step_append_rd (by rfl) _ _ _ (by rfl) (w.heap.size + 3) 43 i0 _ 2 16 Try.underlying39 HI.out HZ0.out HZ1.out HZ2.out rfl (by omega) (.slice sa O.length sc) O.length (cells2 O) (by rfl) HL.out.row (some ⟨w4.heap.size, 0, none⟩) 1 1 [.int .i64 m, .int .i64 z] (by rfl) (srcAt_one (n := 1) (o := 2) SB.out rfl) (by simp [Value.oneCell']) (by unfold maxLen; omega) (by omega) (by simp; omega) ?_
          intro v' w7 hown hgrow hloc
          obtain ⟨na, nc, hna⟩ := own_slice hown
          subst hna
          have HB4 := Lib.hid (HL.out.kept hgrow hlL)
          replace d2 := cell_below HB4.out.low d2 hbL
          clear b0 b1 f0 f1 hb0 c0 c1 c2 h0 h1 h2 hc0
          have _b := box2 HB4.out.boxG; have b0 := _b.1; have b1 := _b.2.1; have f0 := _b.2.2.1; have f1 := _b.2.2.2.1; have hb0 := _b.2.2.2.2; clear _b
          have _c := box3 HB4.out.boxP; have c0 := _c.1; have c1 := _c.2.1; have c2 := _c.2.2.1; have h0 := _c.2.2.2.1; have h1 := _c.2.2.2.2.1; have h2 := _c.2.2.2.2.2.1; have hc0 := _c.2.2.2.2.2.2; clear _c
          replace HPR := Lib.hid ((OwnR.of HPR.out).kept hgrow (fun g hg => own_own_ne HPR.out HL.out.row (by decide) g hg)).1
          refine hK.out _ _ (by ((try dsimp only); (first | go_keep | exact ⟨b0, b1, d2⟩))) (fun hHeld => ?_)
          clear hK K
          try simp only [List.getElem_toArray, List.getElem_cons_zero, List.getElem_cons_succ, Act.put, List.setIfInBounds_toArray, List.set_cons_zero, List.set_cons_succ]
          refine wpAnyH_take (i := 15) (oi := _) (v := ?_) rfl (by kernel_rfl) (by kernel_rfl) (by kernel_rfl) (fun _ _ _ h => h) (Or.inl ⟨by rfl, ?_⟩) (by assumption) ?_
          rotate_left
          focus (intro w hSw; (try dsimp only at hSw); go_simp; try (with_reducible rfl))
          try simp only [List.getElem_toArray, List.getElem_cons_zero, List.getElem_cons_succ, Act.put, List.setIfInBounds_toArray, List.set_cons_zero, List.set_cons_succ]
          refine wpAnyH_ready (rs := [16]) (by kernel_rfl) (by simp) ?_
          refine AllReadyH.cons (o := _) rfl (fun K hK => ?_) AllReadyH.nil
          go_simp
          have HL5 := Lib.hid (HL.out.snoc hgrow hlL hown)
          clear b0 b1 f0 f1 hb0 c0 c1 c2 h0 h1 h2 hc0
          have _b := box2 HL5.out.boxG; have b0 := _b.1; have b1 := _b.2.1; have f0 := _b.2.2.1; have f1 := _b.2.2.2.1; have hb0 := _b.2.2.2.2; clear _b
          have _c := box3 HL5.out.boxP; have c0 := _c.1; have c1 := _c.2.1; have c2 := _c.2.2.1; have h0 := _c.2.2.2.1; have h1 := _c.2.2.2.2.1; have h2 := _c.2.2.2.2.2.1; have hc0 := _c.2.2.2.2.2.2; clear _c
          replace HPR := Lib.hid (own_setOther HPR.out (a := ⟨P, 2, none⟩) (box_own_ne HB4.out.boxP HPR.out (by decide)) (.slice na (O.length + 1) nc))
          refine hK.out _ _ (by ((try dsimp only); (first | go_keep | exact ⟨b0, b1, d2⟩))) (fun hHeld => ?_)
          clear hK K
          try simp only [List.getElem_toArray, List.getElem_cons_zero, List.getElem_cons_succ, Act.put, List.setIfInBounds_toArray, List.set_cons_zero, List.set_cons_succ]
          refine wpAnyH_done (by kernel_rfl) ?_ _
          refine NoPanic.normal ?_
          go_wp2_with fail
          go_roundw
          case rel => exact ⟨j + 1, _, by omega, by go_num, by rw [HSN.out]; exact HL5.out, HPR.out⟩
          case measure => simp [intOf]; omega
    · have hjp : j = pm := by omega
      have hE : O = endsN ls a n.toNat := by rw [← HO.out, ← eN_all HG.out a, HP.out, hjp, HPM.out]
      have HE := Lib.hid hE
      subst hjp
      clear hE
      obtain ⟨c0, c1, c2, h0, h1, h2, hc0⟩ := box3 HL.out.boxP
      obtain ⟨e0, e1, e2, g0, g1, g2, he0⟩ := box3 HL.out.boxR
      have hPR : ¬ P = w.heap.size + 1 := by have := HPW.out; omega
      go_wp2_with fail
      obtain ⟨o5, B5, R5⟩ := HL.out.out
      clear c0 c1 c2 h0 h1 h2 hc0 e0 e1 e2 g0 g1 g2 he0
      obtain ⟨e0, e1, e2, g0, g1, g2, he0⟩ := box3 R5
      apply bodyPost_ret
      · simp [results, Try.results57, go_sem, e0, e1, e2, g0, g1, g2, he0]
        rfl
      · rfl
      · rw [MadeLsa, ← HE.out]
        exact ⟨_, rfl, o5, B5⟩
/-- What LsaOf leaves behind. -/
def LsPost (w : World) (n : Int) (ls : List LinkD) (a s : Int) (e : Ending) (w' : World) : Prop :=
  ∃ u, e = .returned (.tuple #[.agg #[.int .i64 (lsaR n ls a s).1.1, .int .i64 (lsaR n ls a s).1.2.1, u], .bool (lsaR n ls a s).2]) ∧ OwnR w' w.heap.size w'.heap.size 43 2 u (lsaR n ls a s).1.2.2.length (cells2 (lsaR n ls a s).1.2.2) ∧ Below w.heap.size w w'
theorem LsPost.no {w w' : World} {n : Int} {ls : List LinkD} {a s : Int} (h : (gOk n ls && inB a 0 (n - 1) && inB s 1 99) = false) (hb : Below w.heap.size w w') : LsPost w n ls a s (.returned (.tuple #[.agg #[.int .i64 0, .int .i64 0, .slice none 0 0], .bool false])) w' := by
  rw [LsPost, lsaR_no h]
  exact ⟨_, rfl, OwnR.of ⟨rfl, .inl ⟨rfl, rfl⟩⟩, hb⟩
theorem LsPost.yes {w w' : World} {n : Int} {ls : List LinkD} {a s : Int} {u : Value} {E : List (Int × Int)} (hE : endsN ls a n.toNat = E) (hg : GOk n ls) (ha : nd n.toNat a) (hs : inB s 1 99 = true) (ho : OwnR w' w.heap.size w'.heap.size 43 2 u E.length (cells2 E)) (hb : Below w.heap.size w w') : LsPost w n ls a s (.returned (.tuple #[.agg #[.int .i64 a, .int .i64 s, u], .bool true])) w' := by
  subst hE
  rw [LsPost, lsaR_yes hg ha hs]
  exact ⟨_, rfl, ho, hb⟩
set_option maxRecDepth 100000 in
set_option maxHeartbeats 4000000 in
theorem iLsaOf (n : Int) (ls : List LinkD) (a s : Int) (v : Value) (w : World) (hv : TriplesAt w v ls) :
    Calls Try.prog 23 #[.agg #[.int .i64 n, v], .int .i64 a, .int .i64 s] w (LsPost w n ls a s) := by
  have HV := Lib.hid hv
  obtain ⟨va, vm, vc, rfl⟩ := hv.form
  obtain ⟨q1, hq1⟩ : ∃ q, (gOk n ls && inB a 0 (n - 1)) = q := ⟨_, rfl⟩
  obtain ⟨q2, hq2⟩ : ∃ q, inB s 1 99 = q := ⟨_, rfl⟩
  have HQ1 := Lib.hid hq1; have HQ2 := Lib.hid hq2
  clear hv hq1 hq2
  go_enter Try.func23, Try.ntmps23
  go_wp2_with fail
  refine (iHasNode n a ls _ _ (HV.out.below (by with_reducible (repeat (first | (refine below_drewN ?_ _) | (refine Below.drew ?_) | (refine below_alloc ?_ (by first | omega | (simp; done) | (simp; omega)) _) | (refine Below.setCell ?_ (by first | omega | (simp; done) | (simp; omega)) _) | exact Below.refl _ _ | assumption | (refine below_call ?_ (by first | omega | (simp; done) | (simp; omega)) (by assumption))))) (Nat.le_refl _))).mono ?_
  rw [HQ1.out]
  rintro e w1 ⟨rfl, hb⟩
  have G := Lib.hid (Box.call (b := w.heap.size) (c := #[.int .i64 n, .slice va vm vc]) (t := 26) hb (by with_reducible (repeat (first | (refine box_at _ _ _ ?_; first | rfl | (simp; done)) | apply Box.alloc | apply Box.drewN | apply Box.drew))))
  obtain ⟨G_0, G_1, G_2, G_3, G_4⟩ := box2 G.out
  have R := Lib.hid (Box.call (b := w.heap.size + 1) (c := #[.int .i64 0, .int .i64 0, .slice none 0 0]) (t := 41) hb (by with_reducible (repeat (first | (refine box_at _ _ _ ?_; first | rfl | (simp; done)) | apply Box.alloc | apply Box.drewN | apply Box.drew))))
  obtain ⟨R_0, R_1, R_2, R_3, R_4, R_5, R_6⟩ := box3 R.out
  have BW := Lib.hid (below_call (B := w.heap.size) (a := w) (by with_reducible (repeat (first | (refine below_drewN ?_ _) | (refine Below.drew ?_) | (refine below_alloc ?_ (by first | omega | (simp; done) | (simp; omega)) _) | (refine Below.setCell ?_ (by first | omega | (simp; done) | (simp; omega)) _) | exact Below.refl _ _ | assumption | (refine below_call ?_ (by first | omega | (simp; done) | (simp; omega)) (by assumption))))) (Nat.le_refl _) hb)
  clear hb
  cases q1 with
  | false =>
    go_wp2_with fail
    apply bodyPost_ret
    · simp [results, Try.results23, go_sem, R_0, R_1, R_2, R_3, R_4, R_5, R_6]
      rfl
    · rfl
    · exact LsPost.no (by rw [HQ1.out]; rfl) (((BW.out.setCell (p := ⟨w.heap.size + 1, 0, none⟩) (by simp) _).setCell (p := ⟨w.heap.size + 1, 1, none⟩) (by simp) _).setCell (p := ⟨w.heap.size + 1, 2, none⟩) (by simp) _)
  | true =>
    go_wp2_with fail
    refine (within_any s 1 99 _).mono ?_
    rw [HQ2.out]
    rintro e w' ⟨rfl, rfl⟩
    cases q2 with
    | false =>
      go_wp2_with fail
      apply bodyPost_ret
      · simp [results, Try.results23, go_sem, R_0, R_1, R_2, R_3, R_4, R_5, R_6]
        rfl
      · rfl
      · exact LsPost.no (by rw [HQ1.out, HQ2.out]; rfl) (((BW.out.setCell (p := ⟨w.heap.size + 1, 0, none⟩) (by simp) _).setCell (p := ⟨w.heap.size + 1, 1, none⟩) (by simp) _).setCell (p := ⟨w.heap.size + 1, 2, none⟩) (by simp) _)
    | true =>
      have hq := HQ1.out
      simp only [Bool.and_eq_true] at hq
      have hg := gOk_iff.1 hq.1
      have hi := inB_iff.1 hq.2
      have HG := Lib.hid hg
      have HA : Hid (nd n.toNat a) := Lib.hid (hg.nN.2 (by omega))
      have hR1 := R.out.lt
      clear hq hg hi
      obtain ⟨E, hE⟩ : ∃ E, endsN ls a n.toNat = E := ⟨_, rfl⟩
      have HE := Lib.hid hE
      clear hE
      go_wp2_with fail
      refine (iOf n ls a s _ _ (HV.out.below BW.out (Nat.le_refl _)) HG.out).mono ?_
      rintro e w3 ⟨u, rfl, hO, hb⟩
      rw [HE.out] at hO
      obtain ⟨ua, uc, rfl⟩ := own_slice hO.1
      have hBW := BW.out
      have B3 := Lib.hid (hBW.trans (hb.mono hBW.size))
      have R3 := Lib.hid (R.out.below hb R.out.lt)
      have HO3 := Lib.hid hO.1
      have hlo : w.heap.size + 1 < w1.heap.size := hR1
      clear hb hO R_0 R_1 R_2 R_3 R_4 R_5 R_6 hBW
      obtain ⟨R_0, R_1, R_2, R_3, R_4, R_5, R_6⟩ := box3 R3.out
      go_wp2_with fail
      have R5 := box3_set2 (box3_set1 (box3_set0 R3.out (.int .i64 a)) (.int .i64 s)) (.slice ua E.length uc)
      have o5 := own_setCell (own_setCell (own_setCell HO3.out (a := ⟨w.heap.size + 1, 0, none⟩) hlo (.int .i64 a)) (a := ⟨w.heap.size + 1, 1, none⟩) hlo (.int .i64 s)) (a := ⟨w.heap.size + 1, 2, none⟩) hlo (.slice ua E.length uc)
      have B5 := ((B3.out.setCell (p := ⟨w.heap.size + 1, 0, none⟩) (by simp) (.int .i64 a)).setCell (p := ⟨w.heap.size + 1, 1, none⟩) (by simp) (.int .i64 s)).setCell (p := ⟨w.heap.size + 1, 2, none⟩) (by simp) (.slice ua E.length uc)
      clear R_0 R_1 R_2 R_3 R_4 R_5 R_6
      obtain ⟨R_0, R_1, R_2, R_3, R_4, R_5, R_6⟩ := box3 R5
      apply bodyPost_ret
      · simp [results, Try.results23, go_sem, R_0, R_1, R_2, R_3, R_4, R_5, R_6]
        rfl
      · rfl
      · exact LsPost.yes HE.out HG.out HA.out HQ2.out ((OwnR.of o5).mono (by omega) (Nat.le_refl _)) B5
set_option maxRecDepth 100000 in
set_option maxHeartbeats 4000000 in
theorem sLsaOf (n : Int) (ls : List LinkD) (a s : Int) (v : Value) (w : World) (hv : TriplesAt w v ls) :
    Calls Try.prog 24 #[.agg #[.int .i64 n, v], .int .i64 a, .int .i64 s] w (LsPost w n ls a s) := by
  have HV := Lib.hid hv
  obtain ⟨va, vm, vc, rfl⟩ := hv.form
  obtain ⟨q, hq⟩ : ∃ q, gOk n ls = q := ⟨_, rfl⟩
  obtain ⟨q1, hq1⟩ : ∃ q, inB a 0 (n - 1) = q := ⟨_, rfl⟩
  obtain ⟨q2, hq2⟩ : ∃ q, inB s 1 99 = q := ⟨_, rfl⟩
  have HQ := Lib.hid hq; have HQ1 := Lib.hid hq1; have HQ2 := Lib.hid hq2
  clear hv hq hq1 hq2
  go_enter Try.func24, Try.ntmps24
  go_wp2_with fail
  refine (sGraphValid n ls _ _ (HV.out.below (by with_reducible (repeat (first | (refine below_drewN ?_ _) | (refine Below.drew ?_) | (refine below_alloc ?_ (by first | omega | (simp; done) | (simp; omega)) _) | (refine Below.setCell ?_ (by first | omega | (simp; done) | (simp; omega)) _) | exact Below.refl _ _ | assumption | (refine below_call ?_ (by first | omega | (simp; done) | (simp; omega)) (by assumption))))) (Nat.le_refl _))).mono ?_
  rw [HQ.out]
  rintro e w1 ⟨rfl, hb⟩
  have G := Lib.hid (Box.call (b := w.heap.size) (c := #[.int .i64 n, .slice va vm vc]) (t := 26) hb (by with_reducible (repeat (first | (refine box_at _ _ _ ?_; first | rfl | (simp; done)) | apply Box.alloc | apply Box.drewN | apply Box.drew))))
  obtain ⟨G_0, G_1, G_2, G_3, G_4⟩ := box2 G.out
  have R := Lib.hid (Box.call (b := w.heap.size + 1) (c := #[.int .i64 0, .int .i64 0, .slice none 0 0]) (t := 41) hb (by with_reducible (repeat (first | (refine box_at _ _ _ ?_; first | rfl | (simp; done)) | apply Box.alloc | apply Box.drewN | apply Box.drew))))
  obtain ⟨R_0, R_1, R_2, R_3, R_4, R_5, R_6⟩ := box3 R.out
  have BW := Lib.hid (below_call (B := w.heap.size) (a := w) (by with_reducible (repeat (first | (refine below_drewN ?_ _) | (refine Below.drew ?_) | (refine below_alloc ?_ (by first | omega | (simp; done) | (simp; omega)) _) | (refine Below.setCell ?_ (by first | omega | (simp; done) | (simp; omega)) _) | exact Below.refl _ _ | assumption | (refine below_call ?_ (by first | omega | (simp; done) | (simp; omega)) (by assumption))))) (Nat.le_refl _) hb)
  clear hb
  cases q with
  | false =>
    go_wp2_with fail
    apply bodyPost_ret
    · simp [results, Try.results24, go_sem, R_0, R_1, R_2, R_3, R_4, R_5, R_6]
      rfl
    · rfl
    · exact LsPost.no (by rw [HQ.out]; rfl) (((BW.out.setCell (p := ⟨w.heap.size + 1, 0, none⟩) (by simp) _).setCell (p := ⟨w.heap.size + 1, 1, none⟩) (by simp) _).setCell (p := ⟨w.heap.size + 1, 2, none⟩) (by simp) _)
  | true =>
    obtain ⟨hn1, hn8⟩ := gOk_n HQ.out
    go_wp2_with fail
    refine (sNode n a _ _ hn1 hn8).mono ?_
    rw [HQ1.out]
    rintro e w2 ⟨rfl, hb⟩
    have kk := Lib.hid (below_call (B := w1.heap.size) (a := w1) (by with_reducible (repeat (first | (refine below_drewN ?_ _) | (refine Below.drew ?_) | (refine below_alloc ?_ (by first | omega | (simp; done) | (simp; omega)) _) | (refine Below.setCell ?_ (by first | omega | (simp; done) | (simp; omega)) _) | exact Below.refl _ _ | assumption | (refine below_call ?_ (by first | omega | (simp; done) | (simp; omega)) (by assumption))))) (Nat.le_refl _) hb)
    replace BW := Lib.hid (BW.out.trans (kk.out.mono BW.out.size))
    replace G := Lib.hid (G.out.below kk.out G.out.lt)
    clear G_0 G_1 G_2 G_3 G_4
    obtain ⟨G_0, G_1, G_2, G_3, G_4⟩ := box2 G.out
    replace R := Lib.hid (R.out.below kk.out R.out.lt)
    clear R_0 R_1 R_2 R_3 R_4 R_5 R_6
    obtain ⟨R_0, R_1, R_2, R_3, R_4, R_5, R_6⟩ := box3 R.out
    clear hb kk
    cases q1 with
    | false =>
      go_wp2_with fail
      apply bodyPost_ret
      · simp [results, Try.results24, go_sem, R_0, R_1, R_2, R_3, R_4, R_5, R_6]
        rfl
      · rfl
      · exact LsPost.no (by rw [HQ.out, HQ1.out]; rfl) (((BW.out.setCell (p := ⟨w.heap.size + 1, 0, none⟩) (by simp) _).setCell (p := ⟨w.heap.size + 1, 1, none⟩) (by simp) _).setCell (p := ⟨w.heap.size + 1, 2, none⟩) (by simp) _)
    | true =>
      go_wp2_with fail
      refine (l6In_any s 1 99 _).mono ?_
      rw [HQ2.out]
      rintro e w' ⟨rfl, rfl⟩
      cases q2 with
      | false =>
        go_wp2_with fail
        apply bodyPost_ret
        · simp [results, Try.results24, go_sem, R_0, R_1, R_2, R_3, R_4, R_5, R_6]
          rfl
        · rfl
        · exact LsPost.no (by rw [HQ.out, HQ1.out, HQ2.out]; rfl) (((BW.out.setCell (p := ⟨w.heap.size + 1, 0, none⟩) (by simp) _).setCell (p := ⟨w.heap.size + 1, 1, none⟩) (by simp) _).setCell (p := ⟨w.heap.size + 1, 2, none⟩) (by simp) _)
      | true =>
        have hg := gOk_iff.1 HQ.out
        have hi := inB_iff.1 HQ1.out
        have HG := Lib.hid hg
        have HA : Hid (nd n.toNat a) := Lib.hid (hg.nN.2 (by omega))
        have hR1 := R.out.lt
        clear hg hi
        obtain ⟨E, hE⟩ : ∃ E, endsN ls a n.toNat = E := ⟨_, rfl⟩
        have HE := Lib.hid hE
        clear hE
        go_wp2_with fail
        refine (sOf n ls a s _ _ (HV.out.below BW.out (Nat.le_refl _)) HG.out.n8).mono ?_
        rintro e w3 ⟨u, rfl, hO, hb⟩
        rw [HE.out] at hO
        obtain ⟨ua, uc, rfl⟩ := own_slice hO.1
        have hBW := BW.out
        have B3 := Lib.hid (hBW.trans (hb.mono hBW.size))
        have R3 := Lib.hid (R.out.below hb R.out.lt)
        have HO3 := Lib.hid hO.1
        have hlo : w.heap.size + 1 < w2.heap.size := hR1
        clear hb hO R_0 R_1 R_2 R_3 R_4 R_5 R_6 hBW
        obtain ⟨R_0, R_1, R_2, R_3, R_4, R_5, R_6⟩ := box3 R3.out
        go_wp2_with fail
        have R5 := box3_set2 (box3_set1 (box3_set0 R3.out (.int .i64 a)) (.int .i64 s)) (.slice ua E.length uc)
        have o5 := own_setCell (own_setCell (own_setCell HO3.out (a := ⟨w.heap.size + 1, 0, none⟩) hlo (.int .i64 a)) (a := ⟨w.heap.size + 1, 1, none⟩) hlo (.int .i64 s)) (a := ⟨w.heap.size + 1, 2, none⟩) hlo (.slice ua E.length uc)
        have B5 := ((B3.out.setCell (p := ⟨w.heap.size + 1, 0, none⟩) (by simp) (.int .i64 a)).setCell (p := ⟨w.heap.size + 1, 1, none⟩) (by simp) (.int .i64 s)).setCell (p := ⟨w.heap.size + 1, 2, none⟩) (by simp) (.slice ua E.length uc)
        clear R_0 R_1 R_2 R_3 R_4 R_5 R_6
        obtain ⟨R_0, R_1, R_2, R_3, R_4, R_5, R_6⟩ := box3 R5
        apply bodyPost_ret
        · simp [results, Try.results24, go_sem, R_0, R_1, R_2, R_3, R_4, R_5, R_6]
          rfl
        · rfl
        · exact LsPost.yes HE.out HG.out HA.out HQ2.out ((OwnR.of o5).mono (by omega) (Nat.le_refl _)) B5
/-- What GraphNeighbours gives. -/
def nbO (n : Int) (ls : List LinkD) (a : Int) : List Int := if (gOk n ls && inB a 0 (n - 1)) = true then nbL n ls a else []
theorem nbO_yes {n : Int} {ls : List LinkD} {a : Int} (h : GOk n ls) (ha : nd n.toNat a) : nbO n ls a = nbL n ls a := by
  have hi := h.nN.1 ha
  unfold nbO
  rw [if_pos (by rw [gOk_iff.2 h, inB_iff.2 (by omega)]; rfl)]
set_option maxRecDepth 100000 in
set_option maxHeartbeats 1000000 in
theorem iGNb (n : Int) (ls : List LinkD) (a : Int) (v : Value) (w : World) (hv : TriplesAt w v ls) : Calls Try.prog 26 #[.agg #[.int .i64 n, v], .int .i64 a] w (MadeInts w (nbO n ls a)) := by
  have HV := Lib.hid hv
  obtain ⟨va, vm, vc, rfl⟩ := hv.form
  obtain ⟨q1, hq1⟩ : ∃ q, (gOk n ls && inB a 0 (n - 1)) = q := ⟨_, rfl⟩
  have HQ1 := Lib.hid hq1
  clear hv hq1
  go_enter Try.func26, Try.ntmps26
  go_wp2_with fail
  refine (iHasNode n a ls _ _ (HV.out.below (by with_reducible (repeat (first | (refine below_drewN ?_ _) | (refine Below.drew ?_) | (refine below_alloc ?_ (by first | omega | (simp; done) | (simp; omega)) _) | (refine Below.setCell ?_ (by first | omega | (simp; done) | (simp; omega)) _) | exact Below.refl _ _ | assumption | (refine below_call ?_ (by first | omega | (simp; done) | (simp; omega)) (by assumption))))) (Nat.le_refl _))).mono ?_
  rw [HQ1.out]
  rintro e w1 ⟨rfl, hb⟩
  have G := Lib.hid (Box.call (b := w.heap.size) (c := #[.int .i64 n, .slice va vm vc]) (t := 26) hb (by with_reducible (repeat (first | (refine box_at _ _ _ ?_; first | rfl | (simp; done)) | apply Box.alloc | apply Box.drewN | apply Box.drew))))
  obtain ⟨G_0, G_1, G_2, G_3, G_4⟩ := box2 G.out
  have BW := Lib.hid (below_call (B := w.heap.size) (a := w) (by with_reducible (repeat (first | (refine below_drewN ?_ _) | (refine Below.drew ?_) | (refine below_alloc ?_ (by first | omega | (simp; done) | (simp; omega)) _) | (refine Below.setCell ?_ (by first | omega | (simp; done) | (simp; omega)) _) | exact Below.refl _ _ | assumption | (refine below_call ?_ (by first | omega | (simp; done) | (simp; omega)) (by assumption))))) (Nat.le_refl _) hb)
  clear hb
  cases q1 with
  | false =>
    have hp : nbO n ls a = [] := by unfold nbO; rw [if_neg (by rw [HQ1.out]; simp)]
    have HP := Lib.hid hp
    clear hp
    go_wp2_with fail
    go_ret
    rw [MadeInts, HP.out]
    exact ⟨_, rfl, ⟨⟨rfl, .inl ⟨rfl, rfl⟩⟩, fun g hg => by simp [Value.ownBlock] at hg⟩, BW.out⟩
  | true =>
    have hq := HQ1.out
    simp only [Bool.and_eq_true] at hq
    have HG := Lib.hid (gOk_iff.1 hq.1)
    have hp : nbO n ls a = nbL n ls a := by unfold nbO; rw [if_pos HQ1.out]
    have HP := Lib.hid hp
    clear hp hq
    go_wp2_with fail
    refine (iNb n ls a _ _ (HV.out.below BW.out (Nat.le_refl _)) HG.out).mono ?_
    rintro e w2 ⟨u, rfl, hO, hb⟩
    have hs := BW.out.size
    have BW2 := Lib.hid (BW.out.trans (hb.mono hs))
    have HO := Lib.hid (hO.mono hs (Nat.le_refl _))
    clear hO hb
    obtain ⟨ya, yc, rfl⟩ := own_slice HO.out.1
    go_wp2_with fail
    go_ret
    rw [MadeInts, HP.out]
    exact ⟨_, rfl, HO.out, BW2.out⟩
set_option maxRecDepth 100000 in
set_option maxHeartbeats 1000000 in
theorem iGLk (n : Int) (ls : List LinkD) (a b : Int) (v : Value) (w : World) (hv : TriplesAt w v ls) (h : GOk n ls) :
    Calls Try.prog 20 #[.agg #[.int .i64 n, v], .int .i64 a, .int .i64 b] w fun e w' => e = .returned (.int .i64 (lkOf ls a b)) ∧ Below w.heap.size w w' := by
  have HV := Lib.hid hv
  obtain ⟨va, vm, vc, rfl⟩ := hv.form
  have hg := gOk_iff.2 h
  have HGN := Lib.hid hg
  have hl := h.len
  clear hv h hg
  go_enter Try.func20, Try.ntmps20
  go_wp2_with fail
  refine (iGraphValid n ls _ _ (HV.out.below (by with_reducible (repeat (first | (refine below_drewN ?_ _) | (refine Below.drew ?_) | (refine below_alloc ?_ (by first | omega | (simp; done) | (simp; omega)) _) | (refine Below.setCell ?_ (by first | omega | (simp; done) | (simp; omega)) _) | exact Below.refl _ _ | assumption | (refine below_call ?_ (by first | omega | (simp; done) | (simp; omega)) (by assumption))))) (Nat.le_refl _))).mono ?_
  rw [HGN.out]
  rintro e w1 ⟨rfl, hb⟩
  have G := Lib.hid (Box.call (b := w.heap.size) (c := #[.int .i64 n, .slice va vm vc]) (t := 26) hb (by with_reducible (repeat (first | (refine box_at _ _ _ ?_; first | rfl | (simp; done)) | apply Box.alloc | apply Box.drewN | apply Box.drew))))
  obtain ⟨G_0, G_1, G_2, G_3, G_4⟩ := box2 G.out
  have BW := Lib.hid (below_call (B := w.heap.size) (a := w) (by with_reducible (repeat (first | (refine below_drewN ?_ _) | (refine Below.drew ?_) | (refine below_alloc ?_ (by first | omega | (simp; done) | (simp; omega)) _) | (refine Below.setCell ?_ (by first | omega | (simp; done) | (simp; omega)) _) | exact Below.refl _ _ | assumption | (refine below_call ?_ (by first | omega | (simp; done) | (simp; omega)) (by assumption))))) (Nat.le_refl _) hb)
  clear hb
  go_wp2_with fail
  refine (iLinkOf n ls a b _ _ (HV.out.below BW.out (Nat.le_refl _)) (by omega)).mono ?_
  rintro e w2 ⟨rfl, hb⟩
  have BW2 := Lib.hid (BW.out.trans (hb.mono BW.out.size))
  clear hb
  go_wp2_with fail
  go_ret
  exact ⟨rfl, BW2.out⟩
theorem ls_at {w w' : World} {n a s x y : Int} {ls : List LinkD} {E : List (Int × Int)} {q : Bool} {e : Ending} (hd : lsaR n ls a s = ((x, y, E), q)) (h : LsPost w n ls a s e w') : ∃ u, e = .returned (.tuple #[.agg #[.int .i64 x, .int .i64 y, u], .bool q]) ∧ OwnR w' w.heap.size w'.heap.size 43 2 u E.length (cells2 E) ∧ Below w.heap.size w w' := by
  rw [LsPost, hd] at h
  exact h
theorem ls_len {n a s x y : Int} {ls : List LinkD} {E : List (Int × Int)} {q : Bool} (hd : lsaR n ls a s = ((x, y, E), q)) : E.length ≤ 8 := by
  unfold lsaR at hd
  split at hd
  · rename_i h
    injection hd with h1 _
    injection h1 with _ h2
    injection h2 with _ h3
    simp only [Bool.and_eq_true] at h
    have hg := gOk_iff.1 h.1.1
    have := endsN_len ls a n.toNat
    have := hg.n8
    rw [← h3]
    omega
  · injection hd with h1 _
    injection h1 with _ h2
    injection h2 with _ h3
    rw [← h3]; simp
theorem ls_yes {n a s x y : Int} {ls : List LinkD} {E : List (Int × Int)} (hd : lsaR n ls a s = ((x, y, E), true)) : GOk n ls ∧ nd n.toNat a ∧ inB s 1 99 = true ∧ x = a ∧ y = s ∧ E = endsN ls a n.toNat := by
  unfold lsaR at hd
  split at hd
  · rename_i h
    injection hd with h1 _
    injection h1 with h1 h2
    injection h2 with h2 h3
    simp only [Bool.and_eq_true] at h
    have hg := gOk_iff.1 h.1.1
    have hi := inB_iff.1 h.1.2
    exact ⟨hg, hg.nN.2 (by omega), h.2, h1.symm, h2.symm, h3.symm⟩
  · injection hd with _ h2
    cases h2
end Go.Proofs.Ytnnkdoomjkccgaa
