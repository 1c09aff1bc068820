/- The graph without a link: GraphWithout of the program (keep with its closure): eraseIdx. -/
import Derived.Test.YtkegainegkdgpaaGG
import Derived.Test.YtkegainegkdgpaaUsedI
import Derived.Test.YtkegainegkdgpaaLwS
namespace Go.Proofs.Ytkegainegkdgpaa
set_option linter.unusedSimpArgs false
set_option linter.unusedVariables false
open Go.RowKit

theorem woOne (i j : Nat) (x y z : Int) (Jb : Nat) (w : World) (hJ : w.cell? ⟨Jb, 0, none⟩ = some (.int .i64 (j:Int))) :
    Calls Try.prog 66 #[.int .i64 (i:Int), .agg #[.int .i64 x, .int .i64 y, .int .i64 z], .pointer (some ⟨Jb, 0, none⟩)] w fun e w' => e = .returned (.bool (!decide (i = j))) ∧ Below w.heap.size w w' := by
  have hl := cell_lt hJ
  have hn : ¬ Jb = w.heap.size := by omega
  have hl1 : Jb < w.heap.size + 1 := by omega
  by_cases h : i = j
  · subst h
    have t : ((i:Int) != (i:Int)) = false := by simp
    go_enter Try.func66, Try.ntmps66
    go_wp2_with fail
    go_ret
    exact ⟨ret_bool (by simp), (by with_reducible (repeat (first | (refine below_drewN ?_ _) | (refine Below.drew ?_) | (refine below_alloc ?_ (by first | omega | (simp; done) | (simp; omega)) _) | (refine Below.setCell ?_ (by first | omega | (simp; done) | (simp; omega)) _) | exact Below.refl _ _ | assumption | (refine below_call ?_ (by first | omega | (simp; done) | (simp; omega)) (by assumption)))))⟩
  · have t : ((i:Int) != (j:Int)) = true := by simp; omega
    go_enter Try.func66, Try.ntmps66
    go_wp2_with fail
    go_ret
    exact ⟨ret_bool (by simp [h]), (by with_reducible (repeat (first | (refine below_drewN ?_ _) | (refine Below.drew ?_) | (refine below_alloc ?_ (by first | omega | (simp; done) | (simp; omega)) _) | (refine Below.setCell ?_ (by first | omega | (simp; done) | (simp; omega)) _) | exact Below.refl _ _ | assumption | (refine below_call ?_ (by first | omega | (simp; done) | (simp; omega)) (by assumption)))))⟩
/-- The first k links, but for the j-th. -/
def erK (ls : List LinkD) (j k : Nat) : List LinkD := (ls.take k).eraseIdx j
theorem erK_snoc {ls : List LinkD} {j k : Nat} {l : LinkD} (h : ls[k]? = some l) : erK ls j (k + 1) = if k = j then erK ls j k else erK ls j k ++ [l] := by
  obtain ⟨h1, h2⟩ := List.getElem?_eq_some_iff.1 h
  unfold erK
  rw [List.take_succ_eq_append_getElem h1, h2]
  have hlen : (ls.take k).length = k := by rw [List.length_take]; omega
  by_cases hkj : k = j
  · subst hkj
    rw [if_pos rfl, List.eraseIdx_append_of_length_le (by omega), hlen, Nat.sub_self]
    simp only [List.eraseIdx_cons_zero, List.append_nil]
    rw [List.eraseIdx_of_length_le (by omega)]
  · rw [if_neg hkj]
    by_cases hlt : j < k
    · rw [List.eraseIdx_append_of_lt_length (by omega)]
    · rw [List.eraseIdx_append_of_length_le (by omega), hlen]
      rw [List.eraseIdx_of_length_le (l := ls.take k) (by omega)]
      rw [List.eraseIdx_of_length_le (l := [l]) (by simp; omega)]
theorem erK_len (ls : List LinkD) (j k : Nat) : (erK ls j k).length ≤ k := by
  unfold erK
  exact Nat.le_trans (List.length_eraseIdx_le _ _) (by rw [List.length_take]; omega)
theorem erK_all (ls : List LinkD) (j : Nat) : erK ls j ls.length = ls.eraseIdx j := by unfold erK; rw [List.take_length]
set_option maxRecDepth 100000 in
set_option maxHeartbeats 2000000 in
theorem iKeep (n : Int) (ls : List LinkD) (j Jb : Nat) (v : Value) (w : World) (hv : TriplesAt w v ls) (hl : ls.length ≤ 14) (hJ : w.cell? ⟨Jb, 0, none⟩ = some (.int .i64 (j:Int))) :
    Calls Try.prog 65 #[.agg #[.int .i64 n, v], .func (.func 66) #[] #[.pointer (some ⟨Jb, 0, none⟩)]] w (MadeGraph w n (ls.eraseIdx j)) := by
  have HV := Lib.hid hv; have HJ := Lib.hid hJ
  obtain ⟨va, vcap, vb, voff, rfl, hvcap, hvmax, hva, hvc⟩ := hv
  obtain ⟨m, hm⟩ : ∃ m, m = ls.length := ⟨_, rfl⟩
  rw [← hm] at hvcap hva HV hl ⊢
  have HM := Lib.hid hm; have HVC := Lib.hid hvc; have HVA := Lib.hid hva
  have hJl := cell_lt hJ
  obtain ⟨i0, hi, hz0, hz1, hz2⟩ := info_parts infoLk
  have HI := Lib.hid hi; have HZ0 := Lib.hid hz0; have HZ1 := Lib.hid hz1; have HZ2 := Lib.hid hz2
  unfold maxLen at hvmax
  clear hm hvc hva hJ hi hz0 hz1 hz2
  go_enter Try.func65, Try.ntmps65
  go_wp2_with fail
  obtain ⟨W, hW⟩ : ∃ W, ((w.alloc (.cells #[.int .i64 n, .slice va m vcap] 25)).alloc (.cells #[.int .i64 0, .slice none 0 0] 25)).alloc (.cells #[.int .i64 n, .slice none 0 0] 25) = W := ⟨_, rfl⟩
  have BO : Box W (w.heap.size + 1 + 1) #[.int .i64 n, .slice none 0 0] 25 := by rw [← hW]; exact box_at _ _ _ (by simp)
  have BR : Box W (w.heap.size + 1) #[.int .i64 0, .slice none 0 0] 25 := by rw [← hW]; exact (box_at _ _ _ (by simp)).alloc _
  have BB : Below w.heap.size w W := by rw [← hW]; exact (by with_reducible (repeat (first | (refine below_drewN ?_ _) | (refine Below.drew ?_) | (refine below_alloc ?_ (by first | omega | (simp; done) | (simp; omega)) _) | (refine Below.setCell ?_ (by first | omega | (simp; done) | (simp; omega)) _) | exact Below.refl _ _ | assumption | (refine below_call ?_ (by first | omega | (simp; done) | (simp; omega)) (by assumption)))))
  rw [hW]
  have HBO := Lib.hid BO; have HBR := Lib.hid BR; have HBB := Lib.hid BB
  clear hW BO BR BB
  go_loopw [14] (fun i wr => ∃ (k : Nat) (sv : Value), k ≤ m ∧ i = .int .i64 k ∧ wr.ownsRow (w.heap.size + 3) 38 3 sv (erK ls j k).length (cells3 (erK ls j k)) ∧ Box wr (w.heap.size + 1 + 1) #[.int .i64 n, sv] 25 ∧ Box wr (w.heap.size + 1) #[.int .i64 0, .slice none 0 0] 25 ∧ Below w.heap.size w wr) (fun i _ => m - (intOf i).toNat)
  case atStart => exact ⟨0, .slice none 0 0, by omega, rfl, ⟨rfl, .inl ⟨rfl, rfl⟩⟩, HBO.out, HBR.out, HBB.out⟩
  case round =>
    obtain ⟨k, sv, hk, rfl, hO, hBO, hBR, hB⟩ := hrel
    clear HBO HBR HBB
    have HO := Lib.hid hO; have HBO := Lib.hid hBO; have HBR := Lib.hid hBR; have HB := Lib.hid hB
    obtain ⟨sa, sc, rfl⟩ := own_slice hO
    have hOl := hBO.lt
    clear hO hBO hBR hB
    by_cases hkm : k < m
    · obtain ⟨⟨x, y, z⟩, hx⟩ := at_lt HM.out hkm
      have hva := HVA.out (by omega)
      subst hva
      obtain ⟨d0, d1, d2⟩ := HVC.out k x y z hx
      have hbd := cell_lt d0
      have e0 := cell_below HB.out d0 hbd
      have e1 := cell_below HB.out d1 hbd
      have e2 := cell_below HB.out d2 hbd
      have hkI : (k:Int) < (m:Int) := by omega
      have hk0 : (0:Int) ≤ (k:Int) := by omega
      have HSN := Lib.hid (erK_snoc (j := j) hx)
      have hel := erK_len ls j k
      have HJ2 := Lib.hid (cell_alloc (cell_below HB.out HJ.out (cell_lt HJ.out)) (.cells #[.int .i64 x, .int .i64 y, .int .i64 z] 38))
      clear hx d0 d1 d2
      go_wp2_with fail
      refine (woOne k j x y z Jb _ HJ2.out).mono ?_
      rintro e w3 ⟨rfl, hb⟩
      have kk : Below wr.heap.size wr w3 := below_call (B := wr.heap.size) (a := wr) (by with_reducible (repeat (first | (refine below_drewN ?_ _) | (refine Below.drew ?_) | (refine below_alloc ?_ (by first | omega | (simp; done) | (simp; omega)) _) | (refine Below.setCell ?_ (by first | omega | (simp; done) | (simp; omega)) _) | exact Below.refl _ _ | assumption | (refine below_call ?_ (by first | omega | (simp; done) | (simp; omega)) (by assumption))))) (Nat.le_refl _) hb
      have L3 := (box_new wr #[.int .i64 x, .int .i64 y, .int .i64 z] 38).below hb (by simp)
      have O3 := HBO.out.below kk HBO.out.lt
      have R3 := HBR.out.below kk HBR.out.lt
      have HO3 := Lib.hid ((OwnR.of HO.out).below kk (Nat.le_refl _)).1
      have HB3 := Lib.hid (HB.out.trans (kk.mono HB.out.size))
      have HBO3 := Lib.hid O3; have HBR3 := Lib.hid R3; have HL3 := Lib.hid L3
      have hne : ∀ g, (Value.slice sa (erK ls j k).length sc).ownBlock = some g → w.heap.size + 3 ≤ g := own_ge HO.out
      have HNE := Lib.hid hne
      have hws := kk.size
      have hws2 := HB.out.size
      clear hb kk e0 e1 e2 HO HBO HBR HB O3 R3 L3 hne
      by_cases hkj : k = j
      · have hd : (!decide (k = j)) = false := by simp [hkj]
        rw [hd]
        have HS2 : Hid (erK ls j (k + 1) = erK ls j k) := Lib.hid (by rw [HSN.out, if_pos hkj])
        clear hd hkj
        go_wp2_with fail
        go_roundw
        case rel => exact ⟨k + 1, _, by omega, by go_num, by rw [HS2.out]; exact HO3.out, HBO3.out, HBR3.out, HB3.out⟩
        case measure => simp [intOf]; omega
      · have hd : (!decide (k = j)) = true := by simp [hkj]
        rw [hd]
        have HS2 : Hid (erK ls j (k + 1) = erK ls j k ++ [(x, y, z)]) := Lib.hid (by rw [HSN.out, if_neg hkj])
        clear hd hkj
        obtain ⟨p0, p1, p2, q0, q1, q2, hl3⟩ := box3 HL3.out
        obtain ⟨b0, b1, f0, f1, hb0⟩ := box2 HBO3.out
        go_wp2_with (at_builtin; refine wpList_append_rd rfl _ _ _ rfl (w.heap.size + 3) 38 i0 _ 3 24 Try.underlying23 HI.out HZ0.out HZ1.out HZ2.out rfl (by omega) (.slice sa (erK ls j k).length sc) (erK ls j k).length (cells3 (erK ls j k)) rfl (by with_reducible (repeat (first | exact HO3.out | apply own_drewN | apply own_drew | apply World.ownsRow.alloc | (refine own_setCell ?_ (by first | (simp; done) | omega | (simp; omega)) _)))) (some ⟨w3.heap.size, 0, none⟩) 1 1 [.int .i64 x, .int .i64 y, .int .i64 z] rfl (srcAt_one (n := 1) (o := 3) (box_new _ #[.int .i64 x, .int .i64 y, .int .i64 z] _) rfl) (by simp [Value.oneCell']) (by unfold maxLen; omega) (by omega) (by simp; omega) ?_; intro v' w4 hown3 hgrow hloc; have O4 := (HBO3.out.alloc (.cells #[.int .i64 x, .int .i64 y, .int .i64 z] 38)).grown hgrow (fun i hi e => by have := HNE.out i hi; omega); have q4 := box2 O4; obtain ⟨na, nc, hna⟩ := own_slice hown3; subst hna)
        go_roundw
        case rel =>
          have R4 := (HBR3.out.alloc (.cells #[.int .i64 x, .int .i64 y, .int .i64 z] 38)).grown hgrow (fun i hi e => by have := HNE.out i hi; omega)
          have B4 : Below w.heap.size w w4 := Below.grown (HB3.out.alloc HB3.out.size _) hgrow (by simp; omega) (fun i hi => by have := HNE.out i hi; omega)
          have o4 : w4.ownsRow (w.heap.size + 3) 38 3 (.slice na ((erK ls j k).length + 1) nc) (erK ls j (k + 1)).length (cells3 (erK ls j (k + 1))) := by rw [HS2.out]; simpa [cells3_snoc] using hown3
          have hg4 := own_ge o4
          refine ⟨k + 1, _, by omega, by go_num, own_setOther o4 (a := ⟨w.heap.size + 1 + 1, 1, none⟩) (fun e => by have := hg4 _ e; simp at this; omega) _, box2_set1 O4 _, R4.setOther (by simp) _, B4.setCell (by simp; omega) _⟩
        case measure => simp [intOf]; omega
    · obtain rfl : k = m := by omega
      obtain ⟨b0, b1, f0, f1, hb0⟩ := box2 HBO.out
      obtain ⟨c0, c1, h0, h1, hc0⟩ := box2 HBR.out
      have he : erK ls j k = ls.eraseIdx j := by rw [HM.out]; exact erK_all ls j
      rw [he] at HO HBO b1
      have HE := Lib.hid he
      clear he
      have hge := own_ge HO.out
      go_wp2_with fail
      have hws2 := HB.out.size
      have BR2 := box2_set1 (box2_set0 HBR.out (.int .i64 n)) (.slice sa (ls.eraseIdx j).length sc)
      have B2 : Below w.heap.size w ((wr.setCell ⟨w.heap.size + 1, 0, none⟩ (.int .i64 n)).setCell ⟨w.heap.size + 1, 1, none⟩ (.slice sa (ls.eraseIdx j).length sc)) := (HB.out.setCell (by simp) _).setCell (by simp) _
      have O2 := own_setOther (own_setOther HO.out (a := ⟨w.heap.size + 1, 0, none⟩) (fun e => by have h7 : w.heap.size + 3 ≤ w.heap.size + 1 := hge _ e; omega) (.int .i64 n)) (a := ⟨w.heap.size + 1, 1, none⟩) (fun e => by have h7 : w.heap.size + 3 ≤ w.heap.size + 1 := hge _ e; omega) (.slice sa (ls.eraseIdx j).length sc)
      clear b0 b1 f0 f1 hb0 c0 c1 h0 h1 hc0
      obtain ⟨c0, c1, h0, h1, hc0⟩ := box2 BR2
      apply bodyPost_ret
      · simp [results, Try.results65, go_sem, c0, c1, h0, h1, hc0]
        rfl
      · rfl
      · exact ⟨_, rfl, (OwnR.of O2).mono (by omega) (Nat.le_refl _), B2⟩
set_option maxRecDepth 100000 in
set_option maxHeartbeats 2000000 in
theorem iWoNo (n x : Int) (ls : List LinkD) (v : Value) (w : World) (hv : TriplesAt w v ls) (h : (gOk n ls && inB x 0 (ls.length - 1)) = false) :
    Calls Try.prog 37 #[.agg #[.int .i64 n, v], .int .i64 x] w fun e w' => e = .returned (.tuple #[.agg #[.int .i64 0, .slice none 0 0], .bool false]) ∧ Below w.heap.size w w' := by
  have HV := Lib.hid hv; have H := Lib.hid h
  obtain ⟨va, vm, vc, rfl⟩ := hv.form
  clear hv h
  go_enter Try.func37, Try.ntmps37
  go_wp2_with fail
  refine (iHasLink n x ls _ _ (HV.out.below (by with_reducible (repeat (first | (refine below_drewN ?_ _) | (refine Below.drew ?_) | (refine below_alloc ?_ (by first | omega | (simp; done) | (simp; omega)) _) | (refine Below.setCell ?_ (by first | omega | (simp; done) | (simp; omega)) _) | exact Below.refl _ _ | assumption | (refine below_call ?_ (by first | omega | (simp; done) | (simp; omega)) (by assumption))))) (Nat.le_refl _))).mono ?_
  rw [H.out]
  rintro e w1 ⟨rfl, hb⟩
  have R := Lib.hid (Box.call (b := w.heap.size + 1 + 1) (c := #[.int .i64 0, .slice none 0 0]) (t := 25) hb (by with_reducible (repeat (first | (refine box_at _ _ _ ?_; first | rfl | (simp; done)) | apply Box.alloc | apply Box.drewN | apply Box.drew))))
  obtain ⟨R_0, R_1, R_2, R_3, R_4⟩ := box2 R.out
  have BW := Lib.hid (below_call (B := w.heap.size) (a := w) (by with_reducible (repeat (first | (refine below_drewN ?_ _) | (refine Below.drew ?_) | (refine below_alloc ?_ (by first | omega | (simp; done) | (simp; omega)) _) | (refine Below.setCell ?_ (by first | omega | (simp; done) | (simp; omega)) _) | exact Below.refl _ _ | assumption | (refine below_call ?_ (by first | omega | (simp; done) | (simp; omega)) (by assumption))))) (Nat.le_refl _) hb)
  have R2 := box2_set1 (box2_set0 R.out (.int .i64 0)) (.slice none 0 0)
  clear hb
  go_wp2_with fail
  have hws := BW.out.size
  apply bodyPost_ret
  · simp [results, Try.results37, go_sem, R_0, R_1, R_2, R_3, R_4]
    rfl
  · rfl
  · exact ⟨rfl, by have := BW.out; exact (this.setCell (by simp; omega) _).setCell (by simp; omega) _⟩
set_option maxRecDepth 100000 in
set_option maxHeartbeats 2000000 in
theorem iWoYes (n : Int) (j : Nat) (ls : List LinkD) (v : Value) (w : World) (hv : TriplesAt w v ls) (h : GOk n ls) (hj : j < ls.length) :
    Calls Try.prog 37 #[.agg #[.int .i64 n, v], .int .i64 (j:Int)] w fun e w' => ∃ A c, e = .returned (.tuple #[.agg #[.int .i64 n, .slice A (ls.eraseIdx j).length c], .bool true]) ∧ TriplesAt w' (.slice A (ls.eraseIdx j).length c) (ls.eraseIdx j) ∧ Below w.heap.size w w' := by
  have HV := Lib.hid hv
  obtain ⟨va, vm, vc, rfl⟩ := hv.form
  have hg : (gOk n ls && inB (j:Int) 0 (ls.length - 1)) = true := by rw [gOk_iff.2 h, inB_iff.2 (by omega)]; rfl
  have HGN := Lib.hid hg
  have hl := h.len
  clear hv h hg
  go_enter Try.func37, Try.ntmps37
  go_wp2_with fail
  refine (iHasLink n (j:Int) ls _ _ (HV.out.below (by with_reducible (repeat (first | (refine below_drewN ?_ _) | (refine Below.drew ?_) | (refine below_alloc ?_ (by first | omega | (simp; done) | (simp; omega)) _) | (refine Below.setCell ?_ (by first | omega | (simp; done) | (simp; omega)) _) | exact Below.refl _ _ | assumption | (refine below_call ?_ (by first | omega | (simp; done) | (simp; omega)) (by assumption))))) (Nat.le_refl _))).mono ?_
  rw [HGN.out]
  rintro e w1 ⟨rfl, hb⟩
  have G := Lib.hid (Box.call (b := w.heap.size) (c := #[.int .i64 n, .slice va vm vc]) (t := 25) hb (by with_reducible (repeat (first | (refine box_at _ _ _ ?_; first | rfl | (simp; done)) | apply Box.alloc | apply Box.drewN | apply Box.drew))))
  obtain ⟨G_0, G_1, G_2, G_3, G_4⟩ := box2 G.out
  have J := Lib.hid (Box.call (b := w.heap.size + 1) (c := #[.int .i64 (j:Int)]) (t := 3) hb (by with_reducible (repeat (first | (refine box_at _ _ _ ?_; first | rfl | (simp; done)) | apply Box.alloc | apply Box.drewN | apply Box.drew))))
  obtain ⟨J_0, J_1, J_2⟩ := box1 J.out
  have R := Lib.hid (Box.call (b := w.heap.size + 1 + 1) (c := #[.int .i64 0, .slice none 0 0]) (t := 25) hb (by with_reducible (repeat (first | (refine box_at _ _ _ ?_; first | rfl | (simp; done)) | apply Box.alloc | apply Box.drewN | apply Box.drew))))
  obtain ⟨R_0, R_1, R_2, R_3, R_4⟩ := box2 R.out
  have BW := Lib.hid (below_call (B := w.heap.size) (a := w) (by with_reducible (repeat (first | (refine below_drewN ?_ _) | (refine Below.drew ?_) | (refine below_alloc ?_ (by first | omega | (simp; done) | (simp; omega)) _) | (refine Below.setCell ?_ (by first | omega | (simp; done) | (simp; omega)) _) | exact Below.refl _ _ | assumption | (refine below_call ?_ (by first | omega | (simp; done) | (simp; omega)) (by assumption))))) (Nat.le_refl _) hb)
  clear hb
  go_wp2_with fail
  refine (iKeep n ls j (w.heap.size + 1) _ _ (HV.out.below BW.out (Nat.le_refl _)) hl J_0).mono ?_
  rintro e w2 ⟨u, rfl, hO, hb⟩
  have BW2 := Lib.hid (BW.out.trans (hb.mono BW.out.size))
  have R2 := R.out.below hb R.out.lt
  have hws := BW.out.size
  have hRl := R.out.lt
  obtain ⟨ra, rc, rfl⟩ := own_slice hO.1
  have hge : ∀ g, (Value.slice ra (ls.eraseIdx j).length rc).ownBlock = some g → w1.heap.size ≤ g := own_ge hO.1
  have hT := (triples_of_owns hO.1).only (only_set2 w2 (w.heap.size + 1 + 1) (.int .i64 n) (.slice ra (ls.eraseIdx j).length rc)) (fun e => by have := hge _ e; omega)
  have HT := Lib.hid hT
  have R3 := box2_set1 (box2_set0 R2 (.int .i64 n)) (.slice ra (ls.eraseIdx j).length rc)
  clear hb hO hT hge R_0 R_1 R_2 R_3 R_4 G_0 G_1 G_2 G_3 G_4 J_0 J_1 J_2
  obtain ⟨R_0, R_1, R_2, R_3, R_4⟩ := box2 R2
  go_wp2_with fail
  clear R_0 R_1 R_2 R_3 R_4
  obtain ⟨R_0, R_1, R_2, R_3, R_4⟩ := box2 R3
  apply bodyPost_ret
  · simp [results, Try.results37, go_sem, R_0, R_1, R_2, R_3, R_4]
    rfl
  · rfl
  · exact ⟨_, _, rfl, HT.out, by have := BW2.out; exact (this.setCell (by simp; omega) _).setCell (by simp; omega) _⟩
end Go.Proofs.Ytkegainegkdgpaa
