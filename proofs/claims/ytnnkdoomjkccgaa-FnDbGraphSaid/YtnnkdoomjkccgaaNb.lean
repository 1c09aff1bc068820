/- neighbours of the program: the nodes linked with a node, ascending. -/
import Derived.Test.YtnnkdoomjkccgaaSort
import Derived.Test.YtnnkdoomjkccgaaGrAll
namespace Go.Proofs.Ytnnkdoomjkccgaa
set_option linter.unusedSimpArgs false
set_option linter.unusedVariables false
open Go.RowKit

theorem nb_eq {n : Int} {ls : List LinkD} (h : GOk n ls) (a : Int) : sortL (nbC ls a) = nbL n ls a := sortL_eq (nbC_nodup h a) (nbL_asc n ls a) (fun z => by rw [mem_nbC h, mem_nbL h])
set_option maxRecDepth 100000 in
set_option maxHeartbeats 4000000 in
theorem iNb (n : Int) (ls : List LinkD) (a : Int) (v : Value) (w : World) (hv : TriplesAt w v ls) (h : GOk n ls) :
    Calls Try.prog 61 #[.agg #[.int .i64 n, v], .int .i64 a] w (MadeInts w (nbL n ls a)) := by
  have HV := Lib.hid hv
  obtain ⟨va, vcap, vb, voff, rfl, hvcap, hvmax, hva, hvc⟩ := hv
  obtain ⟨vm, hvm⟩ : ∃ m, m = ls.length := ⟨_, rfl⟩
  rw [← hvm] at hvcap hva HV ⊢
  have HVM := Lib.hid hvm; have HVC := Lib.hid hvc; have HVA := Lib.hid hva
  have hvl : vm ≤ 14 := by have := h.len; omega
  have HG := Lib.hid h
  obtain ⟨i0, hi, hz0, hz1, hz2⟩ := info_parts infoI
  have HI := Lib.hid hi; have HZ0 := Lib.hid hz0; have HZ1 := Lib.hid hz1; have HZ2 := Lib.hid hz2
  clear h hvm hvc hva hi hz0 hz1 hz2
  go_enter Try.func61, Try.ntmps61
  go_wp2_with fail
  have HR0 : Hid (((w.alloc (.cells #[.int .i64 n, .slice va vm vcap] 26)).alloc (.cells #[] 3)).ownsRow (w.heap.size + 1) 3 1 (.slice (some ⟨w.heap.size + 1, 0, none⟩) 0 0) 0 []) := Lib.hid (own_new (by simp) (by simp))
  have HB0 : Hid (Below w.heap.size w ((w.alloc (.cells #[.int .i64 n, .slice va vm vcap] 26)).alloc (.cells #[] 3))) := Lib.hid (by with_reducible (repeat (first | (refine below_drewN ?_ _) | (refine Below.drew ?_) | (refine below_alloc ?_ (by first | omega | (simp; done) | (simp; omega)) _) | (refine Below.setCell ?_ (by first | omega | (simp; done) | (simp; omega)) _) | exact Below.refl _ _ | assumption | (refine below_call ?_ (by first | omega | (simp; done) | (simp; omega)) (by assumption)))))
  go_loopw [5, 14] (fun ov i wr => ∃ (k g c : Nat), k ≤ vm ∧ i = .int .i64 k ∧ ov = .slice (some ⟨g, 0, none⟩) (nbC (ls.take k) a).length c ∧ wr.ownsRow (w.heap.size + 1) 3 1 ov (nbC (ls.take k) a).length ((nbC (ls.take k) a).map (Value.int .i64)) ∧ Below w.heap.size w wr) (fun _ i _ => vm - (intOf i).toNat)
  case atStart => exact ⟨0, w.heap.size + 1, 0, Nat.zero_le _, rfl, rfl, HR0.out, HB0.out⟩
  case round =>
    obtain ⟨k, g, c, hk, rfl, rfl, hR, hB⟩ := hrel
    clear HR0 HB0
    obtain ⟨p, hp⟩ : ∃ p, nbC (ls.take k) a = p := ⟨_, rfl⟩
    have hpl := nbC_take_len (ls := ls) a k
    have HP := Lib.hid hp
    rw [hp] at hR hpl ⊢
    have HR := Lib.hid hR; have HB := Lib.hid hB
    clear hp hR hB
    by_cases hkm : k < vm
    · obtain ⟨⟨x, y, z⟩, hl⟩ := at_lt HVM.out hkm
      have hva := HVA.out (by omega)
      subst hva
      obtain ⟨d0, d1, d2⟩ := HVC.out k x y z hl
      have hbd := cell_lt d0
      have e0 := cell_below HB.out d0 hbd
      have e1 := cell_below HB.out d1 hbd
      have e2 := cell_below HB.out d2 hbd
      have hkI : (k:Int) < (vm:Int) := by omega
      have hk0 : (0:Int) ≤ (k:Int) := by omega
      have HSN := Lib.hid (nbC_snoc a hl)
      rw [HP.out] at HSN
      clear hl d0 d1 d2
      go_wp2_with fail
      refine (iOther x y z a _).mono ?_
      rintro e w1 ⟨rfl, hb⟩
      have hb2 : Below wr.heap.size wr w1 := below_call (a := wr) (by with_reducible (repeat (first | (refine below_drewN ?_ _) | (refine Below.drew ?_) | (refine below_alloc ?_ (by first | omega | (simp; done) | (simp; omega)) _) | (refine Below.setCell ?_ (by first | omega | (simp; done) | (simp; omega)) _) | exact Below.refl _ _ | assumption | (refine below_call ?_ (by first | omega | (simp; done) | (simp; omega)) (by assumption))))) (Nat.le_refl _) hb
      have HR2 := Lib.hid (((OwnR.of HR.out).below hb2 (Nat.le_refl _)).1)
      have HB2 := Lib.hid (HB.out.trans (hb2.mono HB.out.size))
      have hs2 := HB2.out.size
      clear hb hb2 e0 e1 e2 HR HB
      rcases ho : otherEnd (x, y, z) a with _ | b
      · have HO := Lib.hid ho
        clear ho
        go_wp2_with fail
        go_roundw
        case rel =>
          refine ⟨k + 1, g, c, by omega, by go_num, ?_, ?_, HB2.out⟩
          · rw [HSN.out, HO.out]; simp
          · rw [HSN.out, HO.out]; simpa using HR2.out
        case measure => simp [intOf]; omega
      · have HO := Lib.hid ho
        clear ho
        have hgn : ¬ g = w1.heap.size := by have := (HR2.out.lt g rfl).2; omega
        go_wp2_with (at_builtin; refine wpList_append_rd rfl _ _ _ rfl (w.heap.size + 1) 3 i0 _ 1 8 Try.underlying54 HI.out HZ0.out HZ1.out HZ2.out rfl (by omega) (.slice (some ⟨g, 0, none⟩) p.length c) p.length (p.map (Value.int .i64)) rfl (by with_reducible (repeat (first | exact HR2.out | apply own_drewN | apply own_drew | apply World.ownsRow.alloc | (refine own_setCell ?_ (by first | (simp; done) | omega | (simp; omega)) _)))) (some ⟨w1.heap.size, 0, none⟩) 1 1 [.int .i64 b] rfl (srcAt_one (box_new _ #[.int .i64 b] _) rfl) (one_ok _ _) (by unfold maxLen; omega) (by omega) (by simp; omega) ?_; intro v' w3 hown3 hgrow hloc)
        have hB3 : Below w.heap.size w w3 := Below.grown (by have := HB2.out; exact (by with_reducible (repeat (first | (refine below_drewN ?_ _) | (refine Below.drew ?_) | (refine below_alloc ?_ (by first | omega | (simp; done) | (simp; omega)) _) | (refine Below.setCell ?_ (by first | omega | (simp; done) | (simp; omega)) _) | exact Below.refl _ _ | assumption | (refine below_call ?_ (by first | omega | (simp; done) | (simp; omega)) (by assumption)))))) hgrow (by simp; omega) (fun j hj => by have := (HR2.out.lt j hj).1; omega)
        obtain ⟨g3, c3, rfl, hlo3⟩ := own_pos hown3 (by omega)
        have HB3 := Lib.hid hB3; have HO3 := Lib.hid hown3
        clear hB3 hgrow hown3 hloc
        go_wp2_with fail
        go_roundw
        case rel =>
          refine ⟨k + 1, g3, c3, by omega, by go_num, ?_, ?_, HB3.out⟩
          · rw [HSN.out, HO.out]; simp
          · have := HO3.out
            rw [map_snoc] at this
            rw [HSN.out, HO.out]
            simpa using this
        case measure => simp [intOf]; omega
    · obtain rfl : k = vm := by omega
      have hall : nbC ls a = p := by have := HP.out; rw [List.take_of_length_le (by have := HVM.out; omega)] at this; exact this
      have hp8 : p.length ≤ 12 := by have := nbC_len HG.out a; rw [hall] at this; omega
      have HAll := Lib.hid hall
      clear hall
      have HRA : Hid (RowA wr (w.heap.size + 1) g c p.toArray) := Lib.hid (by unfold RowA cellsA; simpa using HR.out)
      go_wp2_with fail
      refine (sort_any (w.heap.size + 1) g c p.length p.toArray _ HRA.out (by simp) hp8).mono ?_
      rintro e w2 ⟨rfl, hR2, hG2⟩
      have hB2 : Below w.heap.size w w2 := below_only HB.out (Nat.le_refl _) (by have := (HR.out.lt g rfl).1; omega) hG2
      have HB2 := Lib.hid hB2; have HR2 := Lib.hid hR2
      clear hR2 hG2 hB2
      go_wp2_with fail
      go_ret
      have hs : (Go.Sort.insertionSort Go.Sort.ltInt p.toArray 0 p.length).toList = nbL n ls a := by
        rw [← nb_eq HG.out, HAll.out]
        have := insSort_eq p.toArray
        simpa using this
      have hR := HR2.out
      unfold RowA cellsA at hR
      rw [hs] at hR
      have hsz : (Go.Sort.insertionSort Go.Sort.ltInt p.toArray 0 p.length).size = (nbL n ls a).length := by rw [← hs]; simp
      rw [hsz] at hR
      have hsz2 : p.length = (nbL n ls a).length := by
        rw [← nb_eq HG.out, HAll.out]; unfold sortL; simp
      rw [hsz2]
      exact ⟨_, rfl, (OwnR.of hR).mono (by omega) (Nat.le_refl _), HB2.out⟩
end Go.Proofs.Ytnnkdoomjkccgaa
