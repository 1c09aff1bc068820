/- FnDbGraphBack: for every input the call returns true, and the arguments read afterwards as before. No condition. -/
import Derived.Test.YtnnkdoomjkccgaaDrawA
import Derived.Test.YtnnkdoomjkccgaaLsO
import Derived.Test.YtnnkdoomjkccgaaDbG
import Derived.Test.YtnnkdoomjkccgaaMarkA
import Derived.Test.YtnnkdoomjkccgaaIPut
import Derived.Test.YtnnkdoomjkccgaaRows
import Derived.Test.YtnnkdoomjkccgaaOpen
import Derived.ProofKit
import Derived.OpenShut
import Derived.ShutString
import Derived.ChangeOld
import Derived.Lib.SmallJoins
namespace Go.Proofs.Ytnnkdoomjkccgaa.lawFnDbGraphBack
set_option linter.unusedSimpArgs false
set_option linter.unusedVariables false
open Go.ChangeShapes Go.WideShapes Go.ChangeAt Go.RowKit Go.Joins
/-- What the law carries: the world below, the graph and its box. -/
structure StG (w : World) (G : Nat) (n : Int) (u : Value) (ls : List LinkD) (W : World) : Prop where
  bw : Below w.heap.size w W
  boxG : Box W G #[.int .i64 n, u] 26
  tri : TriplesAt W u ls
theorem StG.below {w : World} {G : Nat} {n : Int} {u : Value} {ls : List LinkD} {W W' : World} (h : StG w G n u ls W) (hb : Below W.heap.size W W') : StG w G n u ls W' :=
  ⟨h.bw.trans (hb.mono h.bw.size), h.boxG.below hb h.boxG.lt, h.tri.below hb (Nat.le_refl _)⟩
set_option maxRecDepth 100000 in
set_option maxHeartbeats 4000000 in
theorem walk (v v2 : Value) (w : World) (h : CodeAt w v) (h2 : CodeAt w v2) :
    Calls Try.prog 8 #[v, v2] w fun e w' => e = .returned (.bool true) ∧ Below w.heap.size w w' := by
  obtain ⟨a0, n0, cap0, b0, off0, rfl, hcap0, hmax0, ha0, hc0⟩ := id h
  unfold maxLen at hmax0
  clear ha0 hc0
  have H := Lib.hid h
  clear h
  obtain ⟨a3, n3, cap3, b3, off3, rfl, hcap3, hmax3, ha3, hc3⟩ := h2
  unfold maxLen at hmax3
  clear ha3 hc3
  by_cases hn : 1048576 < n0
  · have t0 : decide ((1048576:Int) < (n0:Int)) = true := by simp; omega
    go_enter Try.func8, Try.ntmps8
    go_wp2
    go_ret
    exact ⟨rfl, Below.refl _ _⟩
  have t0 : decide ((1048576:Int) < (n0:Int)) = false := by simp; omega
  by_cases hn3 : 1048576 < n3
  · have t1 : decide ((1048576:Int) < (n3:Int)) = true := by simp; omega
    go_enter Try.func8, Try.ntmps8
    go_wp2
    go_ret
    exact ⟨rfl, Below.refl _ _⟩
  have t1 : decide ((1048576:Int) < (n3:Int)) = false := by simp; omega
  go_enter Try.func8, Try.ntmps8
  go_wp2_with fail
  refine (drawGv _ _ H.out).mono ?_
  rintro e w1 ⟨⟨n, u, ls, rfl, hls, hT⟩, hb⟩
  obtain ⟨va, vm, vc, rfl⟩ := hT.form
  have HS : Hid (StG w w1.heap.size n (.slice va vm vc) ls (w1.alloc (.cells #[.int .i64 n, .slice va vm vc] 26))) := Lib.hid ⟨hb.alloc hb.size _, box_new _ _ _, hT.below ((Below.refl _ _).alloc (Nat.le_refl _) _) (Nat.le_refl _)⟩
  clear hT hb
  obtain ⟨q, hq⟩ : ∃ q, gOk n ls = q := ⟨_, rfl⟩
  have HQ := Lib.hid hq
  clear hq
  obtain ⟨c0, c1, f0, f1, l0⟩ := box2 HS.out.boxG
  go_wp2_with fail
  refine (iGraphValid n ls _ _ HS.out.tri).mono ?_
  rw [HQ.out]
  rintro e w2 ⟨rfl, hb⟩
  replace HS := Lib.hid (HS.out.below hb)
  clear hb c0 c1 f0 f1 l0
  obtain ⟨c0, c1, f0, f1, l0⟩ := box2 HS.out.boxG
  go_wp2_with fail
  refine (sGraphValid n ls _ _ HS.out.tri).mono ?_
  rw [HQ.out]
  rintro e w3 ⟨rfl, hb⟩
  replace HS := Lib.hid (HS.out.below hb)
  clear hb c0 c1 f0 f1 l0
  have hqq : (q != q) = false := by simp
  have hqe : (q == q) = true := by simp
  cases q with
  | false =>
    go_wp2_with fail
    go_ret
    exact ⟨rfl, HS.out.bw⟩
  | true =>
    have hg := gOk_iff.1 HQ.out
    have hn1 := hg.n1
    have hn8 := hg.n8
    have HG := Lib.hid hg
    obtain ⟨N, rfl⟩ : ∃ N : Nat, n = N := ⟨n.toNat, by omega⟩
    obtain ⟨r, hr, hr9⟩ : ∃ r : Nat, (n3:Int).tmod 9 = (r:Int) ∧ r < 9 := ⟨n3 % 9, by rw [Int.tmod_eq_emod_of_nonneg (by omega)]; rfl, Nat.mod_lt _ (by omega)⟩
    have wr0 : IntKind.i64.wrap (r:Int) = (r:Int) := IntWalk.i64_in _ (by omega)
    obtain ⟨s, hs⟩ : ∃ s : Int, 1 + (r:Int) = s := ⟨_, rfl⟩
    have wr1 : IntKind.i64.wrap (1 + (r:Int)) = s := by rw [← hs]; exact IntWalk.i64_in _ (by omega)
    have HSQ : Hid (inB s 1 99 = true) := Lib.hid (inB_iff.2 (by omega))
    clear hg hs
    have HL0 : Hid (LsasAt (w3.alloc (.cells #[] 41)) (.slice (some ⟨w3.heap.size, 0, none⟩) 0 0) []) := Lib.hid ((rowLs_new (w := w3) rfl (Nat.le_refl _)).own.at_)
    have HS0 := Lib.hid (HS.out.below ((Below.refl _ _).alloc (Nat.le_refl _) (.cells #[] 41)))
    clear HS
    go_wp2_with fail
    go_loopw [8, 9] (fun dv i wr => ∃ k : Nat, k ≤ N ∧ i = .int .i64 k ∧ StG w w1.heap.size (N:Int) (.slice va vm vc) ls wr ∧ LsasAt wr dv (allD ls N s k)) (fun _ i _ => N - (intOf i).toNat)
    case atStart => exact ⟨0, Nat.zero_le _, rfl, HS0.out, HL0.out⟩
    case round =>
      obtain ⟨k, hk, rfl, hS, hL⟩ := hrel
      clear HS0 HL0
      have HS := Lib.hid hS; have HL := Lib.hid hL
      obtain ⟨da, dm, dc, rfl⟩ := hL.form
      clear hS hL
      obtain ⟨c0, c1, f0, f1, l0⟩ := box2 HS.out.boxG
      by_cases hkN : k < N
      · have t2 : decide ((k:Int) < (N:Int)) = true := decide_eq_true (by omega)
        obtain ⟨E, hE⟩ : ∃ E, endsN ls (k:Int) N = E := ⟨_, rfl⟩
        have HD : Hid (lsaR (N:Int) ls (k:Int) s = (((k:Int), s, E), true)) := Lib.hid (by rw [lsaR_yes HG.out (HG.out.nN.2 (by omega)) HSQ.out, ← hE]; rfl)
        have HPUT : Hid (putOf (allD ls N s k) ((k:Int), s, E) = (allD ls N s (k + 1), 0)) := Lib.hid (by rw [← hE]; exact all_put HG.out HSQ.out (by simpa using hkN))
        clear hE
        go_wp2_with fail
        refine ((iLsaOf (N:Int) ls (k:Int) s _ _ HS.out.tri).mono fun _ _ h => ls_at HD.out h).mono ?_
        rintro e w4 ⟨v4, rfl, hO, hb⟩
        replace HS := Lib.hid (HS.out.below hb)
        replace HL := Lib.hid (HL.out.below hb (Nat.le_refl _))
        have HP := Lib.hid (own_pairs hO)
        obtain ⟨ea, ec, rfl⟩ := own_slice hO.1
        clear hO hb c0 c1 f0 f1 l0
        go_wp2_with fail
        have kb : Below w4.heap.size w4 (w4.alloc (.cells #[.int .i64 (k:Int), .int .i64 s, .slice ea E.length ec] 41)) := (Below.refl _ _).alloc (Nat.le_refl _) _
        refine (iDbPut (allD ls N s k) (k:Int) s E _ _ _ (HL.out.below kb (Nat.le_refl _)) (HP.out.below kb (Nat.le_refl _))).mono ?_
        rw [HPUT.out]
        rintro e w5 ⟨v5, us5, rfl, hO, hb⟩
        replace HS := Lib.hid ((HS.out.below kb).below hb)
        have HL5 := Lib.hid hO.at_
        obtain ⟨xa, xm, xc, rfl⟩ := HL5.out.form
        clear hO hb kb HL HP
        go_wp2_with fail
        go_roundw
        case rel => exact ⟨k + 1, by omega, by go_num, HS.out, HL5.out⟩
        case measure => simp [intOf]; omega
      · obtain rfl : k = N := by omega
        have t2 : decide ((k:Int) < (k:Int)) = false := decide_eq_false (by omega)
        have HDG : Hid (dgO (k:Int) (allD ls k s k) = (((k:Int), ls), true)) := Lib.hid (by have := all_graph HG.out HSQ.out; simpa using this)
        go_wp2_with fail
        refine ((iDbGraph (k:Int) (allD ls k s k) _ _ HL.out).mono fun _ _ h => dg_at HDG.out h).mono ?_
        rintro e w4 ⟨v4, rfl, hO, hb⟩
        replace HS := Lib.hid (HS.out.below hb)
        have HT4 := Lib.hid (own_triples hO)
        obtain ⟨ga, gc, rfl⟩ := own_slice hO.1
        clear hO hb c0 c1 f0 f1 l0 HL
        obtain ⟨c0, c1, f0, f1, l0⟩ := box2 HS.out.boxG
        go_wp2_with fail
        have kb : Below w4.heap.size w4 (w4.alloc (.cells #[.int .i64 (k:Int), .slice ga ls.length gc] 26)) := (Below.refl _ _).alloc (Nat.le_refl _) _
        refine (sameGraph_self (k:Int) ls _ _ _ (HT4.out.below kb (Nat.le_refl _)) (HS.out.tri.below kb (Nat.le_refl _))).mono ?_
        rintro e w5 ⟨rfl, hb⟩
        replace HS := Lib.hid ((HS.out.below kb).below hb)
        clear hb kb c0 c1 f0 f1 l0
        go_wp2_with fail
        go_ret
        exact ⟨rfl, HS.out.bw⟩
theorem own : ownKnob Try.prog.godebug = none := by kernel_rfl
theorem laidOut : laidOutB Try.prog = true := by kernel_rfl
set_option maxRecDepth 100000 in
theorem lifted (os : Os) (started : os.Started) (H : Type) (enc : TypeId × Value → H) :
    ReturnsInHanded {} Try.checked os 8 .any (Rows.fnDbGraphBackSpec.pre6 enc Try.prog Try.f8 Rows.fnDbGraphBackRow.domain false) (Rows.fnDbGraphBackSpec.post enc Try.prog Try.f8 false true false false) := by
  refine returnsInHanded_of_change (C := Try.checked) own started (by kernel_rfl) Try.func8
    (ChangeSpec.witness6 (enc := enc) (C := Try.checked) false ⟨#[], #[.slice none 0 0, .slice none 0 0], []⟩ 8 (by kernel_rfl) (by kernel_rfl) (by kernel_rfl) (by kernel_rfl)) ?_
  intro W base args ds gs before hval0 hW hcnd _
  have hval : ∀ (j : Nat) t v, Try.f8.params[j]? = some t → args[j]? = some v → Value.okWide Try.prog W .any base t v := hval0
  have hW' := hW
  obtain ⟨p, q, hA0, hV, rfl, hfz, hnd⟩ := hW
  have hA : DataW.TrodAll enc Try.prog W 0 (fun _ => true) true Try.f8.params.toList args.toList ds p := hA0
  rw [Try.params8] at hA hval
  obtain ⟨v0, vs0, d0, ds0, p0, q0, hargs, rfl, rfl, h0, r0⟩ := trodAll_cons hA
  obtain ⟨v1, vs1, d1, ds1, p1, q1, rfl, rfl, rfl, h1, r1⟩ := trodAll_cons r0
  obtain ⟨rfl, rfl, rfl⟩ := trodAll_nil r1
  obtain rfl : args = #[v0, v1] := by cases args; simp_all
  obtain ⟨rfl, rfl⟩ := trodVars_none hV
  have k0 := h0
  have lt0 : ∀ x ∈ p0, x.block < W.heap.size := by obtain ⟨m, hm⟩ := k0; exact DataW.trod_lt m _ _ _ hm
  have w0 : CodeAt W v0 := codeAt_of_trod (T := 36) (E := 5) Try.underlying36 Try.underlying5 (by kernel_rfl) (hval 0 36 v0 rfl rfl) h0
  have k1 := h1
  have lt1 : ∀ x ∈ p1, x.block < W.heap.size := by obtain ⟨m, hm⟩ := k1; exact DataW.trod_lt m _ _ _ hm
  have w1 : CodeAt W v1 := codeAt_of_trod (T := 36) (E := 5) Try.underlying36 Try.underlying5 (by kernel_rfl) (hval 1 36 v1 rfl rfl) h1
  clear hA0 hval0
  refine (walk v0 v1 W w0 w1).mono fun e W' ⟨he, bel⟩ => ?_
  subst he
  exact ⟨_, rfl, _, _, _, [], _, [], hW', trodAll_mk1 (shut_bool Try.underlying4 _), (trodAll_cons_mk (Below.trod laidOut (by kernel_rfl) (of_decide_eq_true (by kernel_rfl)) k0 bel lt0) (trodAll_cons_mk (Below.trod laidOut (by kernel_rfl) (of_decide_eq_true (by kernel_rfl)) k1 bel lt1) trodAll_mk0)), rfl, bel.frame _, fun h => by cases h⟩
theorem over : Rows.fnDbGraphBackRow.holds Try.pinned (OpenSpec.ofChange Rows.fnDbGraphBackSpec) :=
  OpenClaim.holds_of_wide 8 Try.f8 rfl rfl rfl rfl rfl rfl rfl ⟨rfl, rfl, rfl, rfl, rfl⟩ rfl rfl rfl rfl rfl (by kernel_rfl) Try.func8 (by kernel_rfl)
    (of_decide_eq_true (by kernel_rfl)) (by unfold Func.isWrapper; first | (rw [if_pos (by decide +kernel)]; kernel_rfl) | (rw [if_neg (by decide +kernel)]; exact ⟨rfl, rfl⟩))
    (fun os started H enc _ => lifted os started H enc)
end Go.Proofs.Ytnnkdoomjkccgaa.lawFnDbGraphBack
namespace Go.Proofs.Ytnnkdoomjkccgaa
set_option linter.unusedSimpArgs false
set_option linter.unusedVariables false
/-- The statement. -/
theorem FnDbGraphBack_proved : Rows.FnDbGraphBackSaid := lawFnDbGraphBack.over
#print axioms FnDbGraphBack_proved
end Go.Proofs.Ytnnkdoomjkccgaa
