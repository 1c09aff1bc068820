/- FnLsaOf: for every input the call returns true, and the argument reads afterwards as before. No condition. -/
import Derived.Test.YtnnkdoomjkccgaaDrawA
import Derived.Test.YtnnkdoomjkccgaaLsO
import Derived.Test.YtnnkdoomjkccgaaMarkA
import Derived.Test.YtnnkdoomjkccgaaLsa
import Derived.Test.YtnnkdoomjkccgaaRows
import Derived.Test.YtnnkdoomjkccgaaOpen
import Derived.ProofKit
import Derived.OpenShut
import Derived.ShutString
import Derived.ChangeOld
import Derived.Lib.SmallJoins
namespace Go.Proofs.Ytnnkdoomjkccgaa.lawFnLsaOf
set_option linter.unusedSimpArgs false
set_option linter.unusedVariables false
open Go.ChangeShapes Go.WideShapes Go.ChangeAt Go.RowKit Go.Joins
/-- What the law carries: the world below, the graph and its box, the announcement and its box. -/
structure StA (w : World) (G O : Nat) (n : Int) (u : Value) (ls : List LinkD) (a s : Int) (ev : Value) (E : List (Int × Int)) (W : World) : Prop where
  bw : Below w.heap.size w W
  boxG : Box W G #[.int .i64 n, u] 26
  tri : TriplesAt W u ls
  boxO : Box W O #[.int .i64 a, .int .i64 s, ev] 41
  prs : PairsAt W ev E
theorem StA.below {w : World} {G O : Nat} {n : Int} {u : Value} {ls : List LinkD} {a s : Int} {ev : Value} {E : List (Int × Int)} {W W' : World} (h : StA w G O n u ls a s ev E W) (hb : Below W.heap.size W W') : StA w G O n u ls a s ev E W' :=
  ⟨h.bw.trans (hb.mono h.bw.size), h.boxG.below hb h.boxG.lt, h.tri.below hb (Nat.le_refl _), h.boxO.below hb h.boxO.lt, h.prs.below hb (Nat.le_refl _)⟩
theorem IntsAt.open_ {w : World} {v : Value} {xs : List Int} (h : IntsAt w v xs) : ∃ a c, v = .slice a xs.length c ∧ xs.length ≤ c ∧ c ≤ maxLen := let ⟨a, c, _, _, hv, h1, h2, _⟩ := h; ⟨a, c, hv, h1, h2⟩
theorem box3F {I : Type} {φ : I → World} {b : Nat} {x y z : Value} {t : TypeId} (h : ∀ i, Box (φ i) b #[x, y, z] t) : (∀ i, (φ i).cell? ⟨b, 0, none⟩ = some x) ∧ (∀ i, (φ i).cell? ⟨b, 1, none⟩ = some y) ∧ (∀ i, (φ i).cell? ⟨b, 2, none⟩ = some z) :=
  ⟨fun i => (box3 (h i)).1, fun i => (box3 (h i)).2.1, fun i => (box3 (h i)).2.2.1⟩
set_option maxRecDepth 100000 in
set_option maxHeartbeats 4000000 in
theorem walk (v : Value) (w : World) (h : CodeAt w v) :
    Calls Try.prog 5 #[v] w fun e w' => e = .returned (.bool true) ∧ Below w.heap.size w w' := by
  obtain ⟨a0, n0, cap0, b0, off0, rfl, hcap0, hmax0, ha0, hc0⟩ := id h
  unfold maxLen at hmax0
  clear ha0 hc0
  have H := Lib.hid h
  clear h
  by_cases hn : 1048576 < n0
  · go_enter Try.func5, Try.ntmps5
    go_wp2
    go_ret
    exact ⟨rfl, Below.refl _ _⟩
  go_enter Try.func5, Try.ntmps5
  go_wp2_with fail
  refine (drawLo _ _ H.out).mono ?_
  rintro e w1 ⟨⟨n, u, ls, a, s, rfl, hls, hT⟩, hb⟩
  obtain ⟨va, vcap, vb, voff, rfl, hvcap, hvmax, hva, hvc⟩ := id hT
  unfold maxLen at hvmax
  obtain ⟨vm, hvm⟩ : ∃ m, m = ls.length := ⟨_, rfl⟩
  rw [← hvm] at hvcap hva hT ⊢
  have HVM := Lib.hid hvm
  have HT := Lib.hid hT
  have HBW := Lib.hid hb
  clear hT hb hva hvc hvm
  obtain ⟨⟨⟨go, gs, E⟩, q⟩, hd⟩ : ∃ r, lsaR n ls a s = r := ⟨_, rfl⟩
  have HD := Lib.hid hd
  have hE8 := ls_len hd
  clear hd
  go_wp2_with fail
  refine ((iLsaOf n ls a s _ _ (HT.out.below ((Below.refl _ _).alloc (Nat.le_refl _) _) (Nat.le_refl _))).mono fun _ _ h => ls_at HD.out h).mono ?_
  rintro e w2 ⟨v2, rfl, hO, hb⟩
  have G := Lib.hid (Box.call (b := w1.heap.size) (c := #[.int .i64 n, .slice va vm vcap]) (t := 26) hb (by with_reducible (repeat (first | (refine box_at _ _ _ ?_; first | rfl | (simp; done)) | apply Box.alloc | apply Box.drewN | apply Box.drew))))
  obtain ⟨G_0, G_1, G_2, G_3, G_4⟩ := box2 G.out
  have BW2 := Lib.hid (below_call (B := w.heap.size) (a := w) (HBW.out.alloc HBW.out.size (.cells #[.int .i64 n, .slice va vm vcap] 26)) (Nat.le_refl _) hb)
  have HT2 := Lib.hid (HT.out.below (below_call (B := w1.heap.size) (a := w1) (by with_reducible (repeat (first | (refine below_drewN ?_ _) | (refine Below.drew ?_) | (refine below_alloc ?_ (by first | omega | (simp; done) | (simp; omega)) _) | (refine Below.setCell ?_ (by first | omega | (simp; done) | (simp; omega)) _) | exact Below.refl _ _ | assumption | (refine below_call ?_ (by first | omega | (simp; done) | (simp; omega)) (by assumption))))) (Nat.le_refl _) hb) (Nat.le_refl _))
  have HP2 := Lib.hid (own_pairs hO)
  obtain ⟨ea, ec, rfl⟩ := own_slice hO.1
  clear hO hb HT HBW
  go_wp2_with fail
  refine ((sLsaOf n ls a s _ _ (HT2.out.below ((Below.refl _ _).alloc (Nat.le_refl _) _) (Nat.le_refl _))).mono fun _ _ h => ls_at HD.out h).mono ?_
  rintro e w3 ⟨v3, rfl, hO, hb⟩
  have kb : Below w2.heap.size w2 w3 := below_call (B := w2.heap.size) (a := w2) (by with_reducible (repeat (first | (refine below_drewN ?_ _) | (refine Below.drew ?_) | (refine below_alloc ?_ (by first | omega | (simp; done) | (simp; omega)) _) | (refine Below.setCell ?_ (by first | omega | (simp; done) | (simp; omega)) _) | exact Below.refl _ _ | assumption | (refine below_call ?_ (by first | omega | (simp; done) | (simp; omega)) (by assumption))))) (Nat.le_refl _) hb
  have HS : Hid (StA w w1.heap.size w2.heap.size n (.slice va vm vcap) ls go gs (.slice ea E.length ec) E w3) :=
    Lib.hid ⟨BW2.out.trans (kb.mono BW2.out.size), G.out.below kb G.out.lt, HT2.out.below kb (Nat.le_refl _), Box.call hb (box_new _ _ _), HP2.out.below kb (Nat.le_refl _)⟩
  have HP3 := Lib.hid (own_pairs hO)
  obtain ⟨ga, gc, rfl⟩ := own_slice hO.1
  clear hO hb kb G G_0 G_1 G_2 G_3 G_4 BW2 HT2 HP2
  obtain ⟨b0, b1, f0, f1, hb0⟩ := box2 HS.out.boxG
  obtain ⟨o0, o1, o2, p0, p1, p2, ho0⟩ := box3 HS.out.boxO
  have hqq : (q != q) = false := by simp
  have hqe : (q == q) = true := by simp
  go_wp2_with fail
  have W3b : Below w3.heap.size w3 (w3.alloc (.cells #[.int .i64 go, .int .i64 gs, .slice ga E.length gc] 41)) := (Below.refl _ _).alloc (Nat.le_refl _) _
  have HS4 := Lib.hid (HS.out.below W3b)
  have HP4 := Lib.hid (HP3.out.below W3b (Nat.le_refl _))
  have HC4 := Lib.hid (box_new w3 #[.int .i64 go, .int .i64 gs, .slice ga E.length gc] 41)
  refine (sameLsa_self HS4.out.prs HP4.out).mono ?_
  rintro e w4 ⟨rfl, hb⟩
  replace HS4 := Lib.hid (HS4.out.below hb)
  replace HP4 := Lib.hid (HP4.out.below hb (Nat.le_refl _))
  replace HC4 := Lib.hid (HC4.out.below hb HC4.out.lt)
  clear hb W3b HS HP3 b0 b1 f0 f1 hb0 o0 o1 o2 p0 p1 p2 ho0
  obtain ⟨b0, b1, f0, f1, hb0⟩ := box2 HS4.out.boxG
  obtain ⟨o0, o1, o2, p0, p1, p2, ho0⟩ := box3 HS4.out.boxO
  cases q with
  | false =>
    obtain ⟨c0, c1, c2, h0, h1, h2, hc0⟩ := box3 HC4.out
    go_wp2_with fail
    refine (sameLsa_self HS4.out.prs HP4.out).mono ?_
    rintro e w5 ⟨rfl, hb⟩
    replace HS4 := Lib.hid (HS4.out.below hb)
    clear hb
    go_wp2_with fail
    go_ret
    exact ⟨rfl, HS4.out.bw⟩
  | true =>
    obtain ⟨hg, ha, hs, rfl, rfl, hE⟩ := ls_yes HD.out
    have HG := Lib.hid hg; have HA := Lib.hid ha; have HSQ := Lib.hid hs; have HE := Lib.hid hE
    obtain ⟨p, hp⟩ : ∃ p, nbL n ls go = p := ⟨_, rfl⟩
    have HP := Lib.hid hp
    have HEP : Hid (E = p.map fun m => (m, cstL ls go m)) := Lib.hid (by rw [hE, endsN_nb hg, hp])
    have hlen : E.length = p.length := by rw [HEP.out, List.length_map]
    obtain ⟨m, hm⟩ : ∃ m, m = E.length := ⟨_, rfl⟩
    have hm2 : m = p.length := hm.trans hlen
    have HMP := Lib.hid hm2
    have HM := Lib.hid hm
    rw [← hm] at hE8
    rw [← hm] at HS4 o2
    rw [← hm]
    clear hg ha hs hE hp hlen hm hm2 HP4 HC4 HD
    go_wp2_with fail
    refine (iGNb n ls go _ _ HS4.out.tri).mono ?_
    rintro e w5 ⟨v5, rfl, hO, hb⟩
    rw [nbO_yes HG.out HA.out, HP.out] at hO
    replace HS4 := Lib.hid (HS4.out.below hb)
    have HI5 := Lib.hid (own_ints hO)
    obtain ⟨la, lc, rfl⟩ := own_slice hO.1
    rw [← HMP.out] at HI5
    rw [← HMP.out]
    clear hO hb b0 b1 f0 f1 hb0 o0 o1 o2 p0 p1 p2 ho0
    go_wp2_with fail
    go_loopw [11] (fun i wr => ∃ k : Nat, k ≤ m ∧ i = .int .i64 k ∧ StA w w1.heap.size w2.heap.size n (.slice va vm vcap) ls go gs (.slice ea m ec) E wr ∧ IntsAt wr (.slice la m lc) p) (fun i _ => m - (intOf i).toNat)
    case atStart => exact ⟨0, Nat.zero_le _, rfl, HS4.out, HI5.out⟩
    case round =>
      obtain ⟨k, hk, rfl, hS, hI⟩ := hrel
      clear HS4 HI5
      have HS := Lib.hid hS; have HI := Lib.hid hI
      obtain ⟨o0, o1, o2, p0, p1, p2, ho0⟩ := box3 hS.boxO
      clear hS hI
      by_cases hkm : k < m
      · have t1 : decide ((k:Int) < (m:Int)) = true := decide_eq_true (by omega)
        obtain ⟨x, hx⟩ := at_lt HMP.out hkm
        have hxE : E[k]? = some (x, cstL ls go x) := by rw [HEP.out, List.getElem?_map, hx]; rfl
        have hc : 0 < cstL ls go x := (mem_nbL HG.out).1 (by rw [HP.out]; exact List.mem_of_getElem? hx)
        obtain ⟨i, y1, y2, z, hi, hl, hz⟩ := lk_place (HG.out.pos.2 hc)
        rw [hz] at hxE
        have HLK := Lib.hid hi
        -- the ends, the list, the link
        obtain ⟨ea', ecap, eb, eoff, e1, e2, e3, e4, e5⟩ := HS.out.prs
        injection e1 with e1 e1m e1c
        have e6 := e1.trans (e4 (by have := HM.out; omega))
        subst e6
        obtain ⟨d0, d1⟩ := e5 k x z hxE
        obtain ⟨la', lcap, lb, loff, l1, l2, l3, l4, l5⟩ := HI.out
        injection l1 with l1 l1m l1c
        have l6 := l1.trans (l4 (by have := HMP.out; omega))
        subst l6
        have d2 := l5 k x hx
        obtain ⟨va', vcap', vb', voff', v1, v2, v3, v4, v5⟩ := HS.out.tri
        injection v1 with v1 v1m v1c
        have hil := (List.getElem?_eq_some_iff.1 hl).1
        have v6 := v1.trans (v4 (by omega))
        subst v6
        have d3 := (v5 i y1 y2 z hl).2.2
        have hiI : (i:Int) < (vm:Int) := by have := HVM.out; omega
        have hkI : (k:Int) < (m:Int) := by omega
        have hne : (x != x) = false := by simp
        have hne2 : (z != z) = false := by simp
        clear e1 e1m e1c e2 e3 e4 e5 l1 l1m l1c l2 l3 l4 l5 v1 v1m v1c v2 v3 v4 v5 hx hxE hc hi hl hz hil
        go_wp2_with fail
        clear o0 o1 o2 p0 p1 p2 ho0
        obtain ⟨I, φ, h0, hφ, hmk⟩ := famOf (wr).heap.size (wr)
        haveI : Nonempty I := h0.elim fun i _ => ⟨i⟩
        have H0 := Lib.hid h0; have HF := Lib.hid hφ; have HMK := Lib.hid hmk; have HBs : Hid ((wr).heap.size ≤ (wr).heap.size) := Lib.hid (Nat.le_refl _)
        clear h0 hφ hmk
        obtain ⟨o0, o1, o2⟩ := box3F (fun i => HS.out.boxO.below (HF.out i) HS.out.boxO.lt)
        obtain ⟨b0, b1, f0, f1, hb0⟩ := box2F (fun i => HS.out.boxG.below (HF.out i) HS.out.boxG.lt)
        have q0 := fun i => cell_below (HF.out i) d0 (cell_lt d0)
        have q1 := fun i => cell_below (HF.out i) d1 (cell_lt d1)
        have q2 := fun i => cell_below (HF.out i) d2 (cell_lt d2)
        have q3 := fun i => cell_below (HF.out i) d3 (cell_lt d3)
        have HC2 : Hid (∀ j, Calls Try.prog 20 #[.agg #[.int .i64 n, .slice (some ⟨vb', voff', none⟩) vm vcap], .int .i64 go, .int .i64 x] (φ j) fun e w' => e = .returned (.int .i64 (i:Int)) ∧ Below (φ j).heap.size (φ j) w') := Lib.hid fun j => by
          have h := iGLk n ls go x (.slice (some ⟨vb', voff', none⟩) vm vcap) (φ j) (HS.out.tri.below (HF.out j) (Nat.le_refl _)) HG.out
          rw [HLK.out] at h
          exact h
        clear d0 d1 d2 d3
        refine wp_region_fam φ H0.out (by kernel_rfl) (by kernel_rfl) ?_
        repeat (go_big_quiet_step ((go_at_call 20; exact quiet_fam HF.out HBs.out HMK.out (HC2.out _))))
        refine wpQuiet_nil ?_
        intro _ hw'
        obtain ⟨nq, hw''⟩ := hw'
        subst hw''
        have hb := HF.out nq
        obtain ⟨w6, hw2⟩ : ∃ x, φ nq = x := ⟨_, rfl⟩
        rw [hw2] at hb ⊢
        clear hw2
        go_wp2_with fail
        go_roundw
        case rel => exact ⟨k + 1, by omega, by go_num, HS.out.below hb, HI.out.below hb (Nat.le_refl _)⟩
        case measure => simp [intOf]; omega
      · obtain rfl : k = m := by omega
        have t1 : decide ((k:Int) < (k:Int)) = false := decide_eq_false (by omega)
        have hok : lsaOk go gs E = true := by rw [HE.out]; exact ends_ok HG.out HA.out HSQ.out
        have HOK := Lib.hid hok
        have g1 : ((k:Int) == (k:Int)) = true := by simp
        have g2 : (go == go) = true := by simp
        have g3 : (gs == gs) = true := by simp
        clear hok
        go_wp2_with fail
        refine (iLsaValid go gs _ E _ HS.out.prs).mono ?_
        rw [HOK.out]
        rintro e w6 ⟨rfl, hb⟩
        replace HS := Lib.hid (HS.out.below hb)
        clear hb o0 o1 o2 p0 p1 p2 ho0
        obtain ⟨o0, o1, o2, p0, p1, p2, ho0⟩ := box3 HS.out.boxO
        go_wp2_with fail
        go_ret
        exact ⟨rfl, HS.out.bw⟩
theorem own : ownKnob Try.prog.godebug = none := by kernel_rfl
theorem laidOut : laidOutB Try.prog = true := by kernel_rfl
set_option maxRecDepth 100000 in
theorem lifted (os : Os) (started : os.Started) (H : Type) (enc : TypeId × Value → H) :
    ReturnsInHanded {} Try.checked os 5 .any (Rows.fnLsaOfSpec.pre6 enc Try.prog Try.f5 Rows.fnLsaOfRow.domain false) (Rows.fnLsaOfSpec.post enc Try.prog Try.f5 false true false false) := by
  refine returnsInHanded_of_change (C := Try.checked) own started (by kernel_rfl) Try.func5
    (ChangeSpec.witness6 (enc := enc) (C := Try.checked) false ⟨#[], #[.slice none 0 0], []⟩ 8 (by kernel_rfl) (by kernel_rfl) (by kernel_rfl) (by kernel_rfl)) ?_
  intro W base args ds gs before hval0 hW hcnd _
  have hval : ∀ (j : Nat) t v, Try.f5.params[j]? = some t → args[j]? = some v → Value.okWide Try.prog W .any base t v := hval0
  have hW' := hW
  obtain ⟨p, q, hA0, hV, rfl, hfz, hnd⟩ := hW
  have hA : DataW.TrodAll enc Try.prog W 0 (fun _ => true) true Try.f5.params.toList args.toList ds p := hA0
  rw [Try.params5] at hA hval
  obtain ⟨v0, vs0, d0, ds0, p0, q0, hargs, rfl, rfl, h0, r0⟩ := trodAll_cons hA
  obtain ⟨rfl, rfl, rfl⟩ := trodAll_nil r0
  obtain rfl : args = #[v0] := by cases args; simp_all
  obtain ⟨rfl, rfl⟩ := trodVars_none hV
  have k0 := h0
  have lt0 : ∀ x ∈ p0, x.block < W.heap.size := by obtain ⟨m, hm⟩ := k0; exact DataW.trod_lt m _ _ _ hm
  have w0 : CodeAt W v0 := codeAt_of_trod (T := 36) (E := 5) Try.underlying36 Try.underlying5 (by kernel_rfl) (hval 0 36 v0 rfl rfl) h0
  clear hA0 hval0
  refine (walk v0 W w0).mono fun e W' ⟨he, bel⟩ => ?_
  subst he
  exact ⟨_, rfl, _, _, _, [], _, [], hW', trodAll_mk1 (shut_bool Try.underlying4 _), (trodAll_cons_mk (Below.trod laidOut (by kernel_rfl) (of_decide_eq_true (by kernel_rfl)) k0 bel lt0) trodAll_mk0), rfl, bel.frame _, fun h => by cases h⟩
theorem over : Rows.fnLsaOfRow.holds Try.pinned (OpenSpec.ofChange Rows.fnLsaOfSpec) :=
  OpenClaim.holds_of_wide 5 Try.f5 rfl rfl rfl rfl rfl rfl rfl ⟨rfl, rfl, rfl, rfl, rfl⟩ rfl rfl rfl rfl rfl (by kernel_rfl) Try.func5 (by kernel_rfl)
    (of_decide_eq_true (by kernel_rfl)) (by unfold Func.isWrapper; first | (rw [if_pos (by decide +kernel)]; kernel_rfl) | (rw [if_neg (by decide +kernel)]; exact ⟨rfl, rfl⟩))
    (fun os started H enc _ => lifted os started H enc)
end Go.Proofs.Ytnnkdoomjkccgaa.lawFnLsaOf
namespace Go.Proofs.Ytnnkdoomjkccgaa
set_option linter.unusedSimpArgs false
set_option linter.unusedVariables false
/-- The statement. -/
theorem FnLsaOf_proved : Rows.FnLsaOfSaid := lawFnLsaOf.over
#print axioms FnLsaOf_proved
end Go.Proofs.Ytnnkdoomjkccgaa
