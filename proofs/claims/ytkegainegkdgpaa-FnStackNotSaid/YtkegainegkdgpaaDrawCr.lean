/- The draw of a graph, a node, labels and a link: DrawStackCrosses. -/
import Derived.Test.YtkegainegkdgpaaDrawSE
import Derived.Test.YtkegainegkdgpaaCrossS
namespace Go.Proofs.Ytkegainegkdgpaa
set_option linter.unusedSimpArgs false
set_option linter.unusedVariables false
open Go.RowKit

theorem drawLink (B : Nat) (m n : Int) (v : Value) (w : World) (hf : ∃ a k c, v = .slice a k c) (h : RdLe w B m) (hm : m < 1000000000000) : Calls Try.prog 62 #[.pointer (some ⟨B, 0, none⟩), .agg #[.int .i64 n, v]] w (SomeInt w B m) := by
  obtain ⟨a, k, c, rfl⟩ := hf
  have hB := rdLe_lt h
  go_enter Try.func62, Try.ntmps62
  go_wp2_with fail
  apply pick_op
  · (with_reducible (repeat (first | assumption | apply rdLe_alloc | apply rdLe_drewN | apply rdLe_drew | apply rdLe_set | (apply rdLe_setCell; rotate_left; (focus (first | omega | (simp; done) | (simp; omega)))))))
  · exact by omega
  intro z W z_0 z_1 W_R W_G
  have A := box_new w #[.int .i64 n, .slice a k c] 25
  have hA := A.only W_G (by simp; omega)
  obtain ⟨A_0, A_1, A_2, A_3, A_4⟩ := box2 hA
  have HG := Lib.hid (only_trans (only_alloc (only_refl w (some B)) _) W_G)
  clear W_G A hA
  rcases Bool.eq_false_or_eq_true (z == 0) with hz | hz
  · go_wp2_with fail
    apply pick_op
    · (with_reducible (repeat (first | assumption | apply rdLe_alloc | apply rdLe_drewN | apply rdLe_drew | apply rdLe_set | (apply rdLe_setCell; rotate_left; (focus (first | omega | (simp; done) | (simp; omega)))))))
    · exact by omega
    intro y W2 y_0 y_1 W2_R W2_G
    have G2 := Lib.hid (only_trans HG.out W2_G)
    clear W2_G
    go_wp2_with fail
    go_ret
    exact ⟨_, rfl, rdLe_mono W2_R (by omega), G2.out⟩
  · by_cases h1 : 1 ≤ (k:Int)
    · have hmx : max (k:Int) 1 = (k:Int) := by omega
      go_wp2_with fail
      apply pick_op
      · (with_reducible (repeat (first | assumption | apply rdLe_alloc | apply rdLe_drewN | apply rdLe_drew | apply rdLe_set | (apply rdLe_setCell; rotate_left; (focus (first | omega | (simp; done) | (simp; omega)))))))
      · exact by omega
      intro y W2 y_0 y_1 W2_R W2_G
      have G2 := Lib.hid (only_trans HG.out W2_G)
      clear W2_G
      go_wp2_with fail
      go_ret
      exact ⟨_, rfl, rdLe_mono W2_R (by omega), G2.out⟩
    · have hmx : max (k:Int) 1 = 1 := by omega
      go_wp2_with fail
      apply pick_op
      · (with_reducible (repeat (first | assumption | apply rdLe_alloc | apply rdLe_drewN | apply rdLe_drew | apply rdLe_set | (apply rdLe_setCell; rotate_left; (focus (first | omega | (simp; done) | (simp; omega)))))))
      · exact by omega
      intro y W2 y_0 y_1 W2_R W2_G
      have G2 := Lib.hid (only_trans HG.out W2_G)
      clear W2_G
      go_wp2_with fail
      go_ret
      exact ⟨_, rfl, rdLe_mono W2_R (by omega), G2.out⟩
/-- A graph, a node, a few labels and a number. -/
structure CrPost (w : World) (e : Ending) (w' : World) : Prop where
  ex : ∃ n u ls a x s y, e = .returned (.tuple #[.agg #[.int .i64 n, u], .int .i64 a, x, .int .i64 y]) ∧ ls.length ≤ 15 ∧ TriplesAt w' u ls ∧ s.length ≤ 9 ∧ PairsAt w' x s
  below : Below w.heap.size w w'
/-- What holds in DrawStackCrosses. -/
structure CrW (w : World) (R B G : Nat) (n : Int) (u : Value) (ls : List LinkD) (m : Int) (hv : Value) (s : List LabelD) (W : World) : Prop where
  rd : RdLe W B m
  row : W.ownsRow (B + 1) 38 3 u ls.length (cells3 ls)
  lab : W.ownsRow (B + 1) 40 2 hv s.length (cells2 s)
  boxR : Box W R #[.int .i64 0, .slice none 0 0] 25
  boxG : Box W G #[.int .i64 n, u] 25
  bw : Below w.heap.size w W
section
variable {w : World} {R B G : Nat} {n : Int} {u : Value} {ls : List LinkD} {m : Int} {hv : Value} {s : List LabelD} {W W' : World}
theorem CrW.only (h : CrW w R B G n u ls m hv s W) (hR : R ≠ B) (hG : G ≠ B) (hw : w.heap.size ≤ B) (hg : W.grownBy W' (some B)) {m' : Int} (hr : RdLe W' B m') : CrW w R B G n u ls m' hv s W' :=
  ⟨hr, own_only h.row hg (by omega), own_only h.lab hg (by omega), h.boxR.only hg hR, h.boxG.only hg hG, below_only h.bw (Nat.le_refl _) hw hg⟩
theorem CrW.below (h : CrW w R B G n u ls m hv s W) (hb : Below W.heap.size W W') : CrW w R B G n u ls m hv s W' :=
  ⟨rdLe_below h.rd hb, ((OwnR.of h.row).below hb (Nat.le_refl _)).1, ((OwnR.of h.lab).below hb (Nat.le_refl _)).1, h.boxR.below hb h.boxR.lt, h.boxG.below hb h.boxG.lt, h.bw.trans (hb.mono h.bw.size)⟩
theorem CrW.mono (h : CrW w R B G n u ls m hv s W) {m' : Int} (hm : m ≤ m') : CrW w R B G n u ls m' hv s W := ⟨rdLe_mono h.rd hm, h.row, h.lab, h.boxR, h.boxG, h.bw⟩
theorem CrW.other (h : CrW w R B G n u ls m hv s W) {hv' : Value} {s' : List LabelD} (ho : W.ownsRow (B + 1) 40 2 hv' s'.length (cells2 s')) : CrW w R B G n u ls m hv' s' W := ⟨h.rd, h.row, ho, h.boxR, h.boxG, h.bw⟩
end
set_option maxRecDepth 100000 in
set_option maxHeartbeats 4000000 in
theorem drawCr (v : Value) (w : World) (h : CodeAt w v) : Calls Try.prog 35 #[v] w (CrPost w) := by
  go_enter Try.func35, Try.ntmps35
  go_wp2_with fail
  have R0 := box_new w #[.int .i64 0, .slice none 0 0] 25
  have B0 : Below w.heap.size w (w.alloc (.cells #[.int .i64 0, .slice none 0 0] 25)) := (by with_reducible (repeat (first | (refine below_drewN ?_ _) | (refine Below.drew ?_) | (refine below_alloc ?_ (by first | omega | (simp; done) | (simp; omega)) _) | (refine Below.setCell ?_ (by first | omega | (simp; done) | (simp; omega)) _) | exact Below.refl _ _ | assumption | (refine below_call ?_ (by first | omega | (simp; done) | (simp; omega)) (by assumption)))))
  have hC := codeAt_alloc h (.cells #[.int .i64 0, .slice none 0 0] 25)
  obtain ⟨W0, hW0⟩ : ∃ W0, w.alloc (.cells #[.int .i64 0, .slice none 0 0] 25) = W0 := ⟨_, rfl⟩
  rw [hW0] at R0 B0 hC ⊢
  have HC := Lib.hid hC
  clear hW0 hC h
  refine (open_any v W0 W0.heap.size rfl HC.out).mono ?_
  rintro e w1 ⟨rfl, hR1, hb1, hlt1⟩
  obtain ⟨B, hB⟩ : ∃ B, W0.heap.size = B := ⟨_, rfl⟩
  have B1 := Lib.hid (B0.trans (hb1.mono B0.size))
  have R1 := Lib.hid (R0.below hb1 R0.lt)
  have hwB : w.heap.size < B := by have := R0.lt; omega
  rw [hB] at hR1 hlt1 ⊢
  have HR1 := Lib.hid hR1
  clear hb1 hB hR1 R0 B0 HC
  go_wp2_with fail
  refine (drawSpoilt B 0 _ HR1.out (by omega)).mono ?_
  rintro e w2 ⟨n, u, ls, rfl, hls, hO, hR2, hG2⟩
  have hlo : ∀ g, u.ownBlock = some g → B < g := fun g hg => by have := (hO.lt g hg).1; omega
  have hne : u.ownBlock ≠ some B := fun e => by have := hlo _ e; omega
  have HT := Lib.hid (hO.mono (show B + 1 ≤ w1.heap.size by omega) (Nat.le_refl _)).1
  obtain ⟨ua, uc, rfl⟩ := own_slice hO.1
  have HNE := Lib.hid hne
  have B2 := Lib.hid (below_only B1.out (Nat.le_refl _) (by omega) hG2)
  have R2 := Lib.hid (R1.out.only hG2 (by omega))
  have HR2 := Lib.hid hR2
  have hs2 := hG2.size
  clear hlo hne hO hR2 hG2 HR1 B1 R1
  have hGB : w2.heap.size ≠ B := by omega
  have hwG : w.heap.size < w2.heap.size := by omega
  have C2 : CrW w w.heap.size B w2.heap.size n (.slice ua ls.length uc) ls (0 + 410) (.slice none 0 0) [] (w2.alloc (.cells #[.int .i64 n, .slice ua ls.length uc] 25)) :=
    ⟨rdLe_alloc HR2.out _, HT.out.alloc _, ⟨rfl, .inl ⟨rfl, rfl⟩⟩, R2.out.alloc _, box_new w2 _ _, B2.out.alloc B2.out.size _⟩
  have HC2 := Lib.hid C2
  clear C2 HT B2 R2 HR2
  go_wp2_with fail
  obtain ⟨G, hG⟩ : ∃ G, w2.heap.size = G := ⟨_, rfl⟩
  obtain ⟨X, hX⟩ : ∃ X, w2.alloc (.cells #[.int .i64 n, .slice ua ls.length uc] 25) = X := ⟨_, rfl⟩
  rw [hX] at HC2 ⊢
  rw [hG] at hGB hwG HC2 ⊢
  clear hX hG
  refine (drawNode B (0 + 410) n _ _ ⟨_, _, _, rfl⟩ HC2.out.rd (by omega)).mono ?_
  rintro e w3 ⟨a, rfl, hR3, hG3⟩
  have HC3 := Lib.hid (HC2.out.only (by omega) hGB (by omega) hG3 hR3)
  clear hR3 hG3 HC2
  obtain ⟨b0, b1, f0, f1, hb0⟩ := box2 HC3.out.boxG
  go_wp2_with fail
  refine (drawStack B (0 + 410 + 2) n a ls _ _ (triples_of_owns HC3.out.row) HNE.out HC3.out.rd (by omega)).mono ?_
  rintro e w4 ⟨x, s, rfl, hs, hO4, hR4, hG4⟩
  have hws3 : B + 1 ≤ w3.heap.size := by have := rdLe_lt HC3.out.rd; omega
  have HC4 := Lib.hid ((HC3.out.only (by omega) hGB (by omega) hG4 hR4).other (hO4.mono hws3 (Nat.le_refl _)).1)
  obtain ⟨xa, xc, rfl⟩ := own_slice hO4.1
  clear hO4 hR4 hG4 HC3 hws3 b0 b1 f0 f1 hb0
  obtain ⟨b0, b1, f0, f1, hb0⟩ := box2 HC4.out.boxG
  go_wp2_with fail
  refine (drawLink B _ n _ _ ⟨_, _, _, rfl⟩ HC4.out.rd (by omega)).mono ?_
  rintro e w5 ⟨y, rfl, hR5, hG5⟩
  have HC5 := Lib.hid (HC4.out.only (by omega) hGB (by omega) hG5 hR5)
  clear hR5 hG5 HC4 b0 b1 f0 f1 hb0
  go_wp2_with fail
  go_loopw [9, 10, 11] (fun sv yv i wr => ∃ (k : Nat) (y : Int) (A : Option Addr) (c : Nat) (s : List LabelD), k ≤ 6 ∧ i = .int .i64 k ∧ yv = .int .i64 y ∧ sv = .slice A s.length c ∧ s.length ≤ 9 ∧ CrW w w.heap.size B G n (.slice ua ls.length uc) ls (500 + 100 * k) (.slice A s.length c) s wr) (fun _ _ i _ => 6 - (intOf i).toNat)
  case atStart => exact ⟨0, y, xa, xc, s, by omega, rfl, rfl, rfl, hs, HC5.out.mono (by omega)⟩
  case round =>
    obtain ⟨k, y, A, c, s, hk, rfl, rfl, rfl, hs9, hC⟩ := hrel
    clear HC5
    have HC := Lib.hid hC
    obtain ⟨b0, b1, f0, f1, hb0⟩ := box2 hC.boxG
    obtain ⟨c0, c1, h0, h1, hc0⟩ := box2 hC.boxR
    clear hC
    have hfin : ∀ W : World, CrW w w.heap.size B G n (.slice ua ls.length uc) ls (500 + 100 * k) (.slice A s.length c) s W → CrPost w (.returned (.tuple #[.agg #[.int .i64 n, .slice ua ls.length uc], .int .i64 a, .slice A s.length c, .int .i64 y])) ((W.setCell ⟨w.heap.size, 0, none⟩ (.int .i64 n)).setCell ⟨w.heap.size, 1, none⟩ (.slice ua ls.length uc)) := fun W hW => by
      have hg := only_set2 W w.heap.size (.int .i64 n) (.slice ua ls.length uc)
      have h1 := own_ge hW.row
      have h2 := own_ge hW.lab
      refine ⟨⟨n, _, ls, a, _, s, y, rfl, hls, (triples_of_owns hW.row).only hg (fun e => by have := h1 _ e; omega), hs9, (pairs_of_owns hW.lab).only hg (fun e => by have := h2 _ e; omega)⟩, (hW.bw.setCell (Nat.le_refl _) _).setCell (Nat.le_refl _) _⟩
    have HFIN := Lib.hid hfin
    clear hfin
    by_cases hk6 : k < 6
    rotate_left
    · have t1 : decide ((k:Int) < 6) = false := decide_eq_false (by omega)
      have BR2 := box2_set1 (box2_set0 HC.out.boxR (.int .i64 n)) (.slice ua ls.length uc)
      go_wp2_with fail
      clear c0 c1 h0 h1 hc0
      obtain ⟨c0, c1, h0, h1, hc0⟩ := box2 BR2
      apply bodyPost_ret
      · simp [results, Try.results35, go_sem, c0, c1, h0, h1, hc0]
        rfl
      · rfl
      · exact HFIN.out _ HC.out
    have t1 : decide ((k:Int) < 6) = true := decide_eq_true (by omega)
    obtain ⟨V, hV⟩ : ∃ V, crossV n ls a s y = V := ⟨_, rfl⟩
    have HV := Lib.hid hV
    clear hV
    go_wp2_with fail
    refine (sStackCrosses n ls a s y _ _ _ (triples_of_owns HC.out.row) (pairs_of_owns HC.out.lab)).mono ?_
    rw [HV.out]
    rintro e w6 ⟨rfl, hb⟩
    have HC6 := Lib.hid (HC.out.below hb)
    clear hb HC b0 b1 f0 f1 hb0 c0 c1 h0 h1 hc0
    obtain ⟨b0, b1, f0, f1, hb0⟩ := box2 HC6.out.boxG
    obtain ⟨c0, c1, h0, h1, hc0⟩ := box2 HC6.out.boxR
    cases V with
    | true =>
      have BR2 := box2_set1 (box2_set0 HC6.out.boxR (.int .i64 n)) (.slice ua ls.length uc)
      go_wp2_with fail
      clear c0 c1 h0 h1 hc0
      obtain ⟨c0, c1, h0, h1, hc0⟩ := box2 BR2
      apply bodyPost_ret
      · simp [results, Try.results35, go_sem, c0, c1, h0, h1, hc0]
        rfl
      · rfl
      · exact HFIN.out _ HC6.out
    | false =>
      go_wp2_with fail
      refine (drawStack B _ n a ls _ _ (triples_of_owns HC6.out.row) HNE.out HC6.out.rd (by omega)).mono ?_
      rintro e w7 ⟨x, s', rfl, hs', hO4, hR4, hG4⟩
      have hws3 : B + 1 ≤ w6.heap.size := by have := rdLe_lt HC6.out.rd; omega
      have HC7 := Lib.hid ((HC6.out.only (by omega) hGB (by omega) hG4 hR4).other (hO4.mono hws3 (Nat.le_refl _)).1)
      obtain ⟨A', c', rfl⟩ := own_slice hO4.1
      clear hO4 hR4 hG4 HC6 hws3 b0 b1 f0 f1 hb0 c0 c1 h0 h1 hc0
      obtain ⟨b0, b1, f0, f1, hb0⟩ := box2 HC7.out.boxG
      go_wp2_with fail
      refine (drawLink B _ n _ _ ⟨_, _, _, rfl⟩ HC7.out.rd (by omega)).mono ?_
      rintro e w8 ⟨y', rfl, hR5, hG5⟩
      have HC8 := Lib.hid (HC7.out.only (by omega) hGB (by omega) hG5 hR5)
      clear hR5 hG5 HC7 b0 b1 f0 f1 hb0
      go_wp2_with fail
      go_roundw
      case rel => exact ⟨k + 1, y', A', c', s', by omega, by go_num, rfl, rfl, hs', HC8.out.mono (by omega)⟩
      case measure => simp [intOf]; omega
end Go.Proofs.Ytkegainegkdgpaa
