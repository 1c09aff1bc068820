/- FnStackWays: for every input the call returns true, and the argument reads afterwards as before. No condition. -/
import Derived.Test.YtkegainegkdgpaaLwH
import Derived.Test.YtkegainegkdgpaaUniqI
import Derived.Test.YtkegainegkdgpaaCut
import Derived.Test.YtkegainegkdgpaaRows
import Derived.Test.YtkegainegkdgpaaOpen
import Derived.ProofKit
import Derived.OpenShut
import Derived.ShutString
import Derived.ChangeOld
import Derived.Lib.SmallJoins
namespace Go.Proofs.Ytkegainegkdgpaa.lawFnStackWays
set_option linter.unusedSimpArgs false
set_option linter.unusedVariables false
open Go.ChangeShapes Go.WideShapes Go.ChangeAt Go.RowKit Go.Joins
theorem take_drop_one {s : List LabelD} {k : Nat} {l : LabelD} (h : s[k]? = some l) : (s.drop k).take (k + 1 - k) = [l] := by
  obtain ⟨h1, h2⟩ := List.getElem?_eq_some_iff.1 h
  rw [Nat.add_sub_cancel_left, List.drop_eq_getElem_cons h1, h2]
  rfl
/-- How far the labels have been found to leave no choice. -/
def WaysTo (n : Int) (ls : List LinkD) (a : Int) (s : List LabelD) (k : Nat) (c : Int) : Prop := (k = 0 ∧ c = a) ∨ ((gOk n ls && inB a 0 (n - 1)) = true ∧ ∃ q, stkL n ls a (s.take k) = some q ∧ lastN a q = c ∧ uniqS n ls a (s.take k) = true)
theorem ways_step {n : Int} {ls : List LinkD} {a c b : Int} {s : List LabelD} {k : Nat} {l : LabelD} {q1 : List Int} (h : WaysTo n ls a s k c) (hl : s[k]? = some l) (h1 : stkOf n ls c [l] = some q1) (hb : lastN c q1 = b) (hu : l.1 ≠ 1 ∨ cntG n ls c b ≤ 1) : WaysTo n ls a s (k + 1) b := by
  have hF := stkOf_some h1
  have hh : hopTo n ls c l = some b := by
    have h2 := hF.run
    simp only [stkL] at h2
    split at h2
    · cases h2
    · rename_i b' hb'
      simp only [Option.some.injEq] at h2
      subst h2
      simp only [lastN] at hb
      rw [hb', hb]
  have hbn := hop_nd hF.ok hF.nd hh
  have hcnt : (!decide (l.1 = 1) || decide (cntG n ls c b = 1)) = true := by
    by_cases e : l.1 = 1
    · have h3 : cntG n ls c b ≤ 1 := by rcases hu with h | h; exact absurd e h; exact h
      have h0 : 0 ≤ distG n ls c b := by
        rcases hop_cases hF.ok hh with ⟨_, _, _, h4⟩ | ⟨_, _, h4, _⟩
        · exact h4
        · omega
      have h5 : 1 ≤ cntG n ls c b := cnt_pos hF.ok.fits.ok hF.ok.dst hbn n.toNat c hF.nd (by rw [← hF.ok.dst.symm hF.ok.fits.ok hF.nd hbn]; exact h0) (rk_le _ _ _)
      simp [show cntG n ls c b = 1 by omega]
    · simp [e]
  right
  rcases h with ⟨rfl, rfl⟩ | ⟨hg, q, hq, hc, hun⟩
  · have hi := hF.ok.nN.1 hF.nd
    refine ⟨by rw [gOk_iff.2 hF.ok, inB_iff.2 (by omega)]; rfl, [b], ?_, rfl, ?_⟩
    · have e : s.take (0 + 1) = [l] := by
        have := take_drop_one hl
        simpa using this
      rw [e]
      simp [stkL, hh]
    · have e : s.take (0 + 1) = [l] := by
        have := take_drop_one hl
        simpa using this
      rw [e]
      simp only [uniqS, nextN_of hh, Bool.and_true]
      exact hcnt
  · have hsn := stkL_snoc hl hq
    rw [hc, hh] at hsn
    obtain ⟨h1', h2'⟩ := List.getElem?_eq_some_iff.1 hl
    refine ⟨hg, q ++ [b], hsn, by rw [lastN_append]; rfl, ?_⟩
    have hgk : GOk n ls := hF.ok
    have han : nd n.toNat a := hgk.nN.2 (by rw [Bool.and_eq_true] at hg; have := inB_iff.1 hg.2; omega)
    have hk2 : (s.take (k + 1))[k]? = some l := by rw [List.getElem?_take, if_pos (by omega)]; exact hl
    obtain ⟨x, y, hA⟩ := stk_at hgk han hsn hk2
    have hql := (stk_walk hgk han hq).2.2.2.1
    rw [List.length_take, Nat.min_eq_left (by omega)] at hql
    have hx : x = c := by
      have h3 := hA.at_
      have h4 : (a :: (q ++ [b]))[k]? = (a :: q)[k]? := by rw [show a :: (q ++ [b]) = (a :: q) ++ [b] from rfl, List.getElem?_append_left (by simp [hql])]
      have h5 := lastN_at a q
      rw [hql] at h5
      rw [h4, h5] at h3
      rw [← hc]; exact (Option.some.inj h3).symm
    have hy : y = b := by
      have h3 := hA.next
      rw [List.getElem?_append_right (by omega), hql] at h3
      simpa using h3.symm
    have hu2 := hA.uniq
    have e1 : (s.take (k + 1)).take (k + 1) = s.take (k + 1) := List.take_of_length_le (by rw [List.length_take]; omega)
    have e2 : (s.take (k + 1)).take k = s.take k := by rw [List.take_take, Nat.min_eq_left (by omega)]
    rw [e1, e2, hx, hy, hun, hcnt] at hu2
    exact hu2
theorem ways_end {n : Int} {ls : List LinkD} {a c : Int} {s : List LabelD} (h : WaysTo n ls a s s.length c) (hu : unqV n ls a s = false) : stkOf n ls a s = none := by
  rcases hq : stkOf n ls a s with _ | q
  · rfl
  · exfalso
    rw [unqV_some hq] at hu
    rcases h with ⟨h0, _⟩ | ⟨_, q2, _, _, h3⟩
    · have : s = [] := List.eq_nil_of_length_eq_zero h0
      subst this
      simp [uniqS] at hu
    · rw [List.take_length] at h3
      rw [h3] at hu; cases hu
set_option maxRecDepth 100000 in
set_option maxHeartbeats 4000000 in
theorem walk (v : Value) (w : World) (h : CodeAt w v) :
    Calls Try.prog 8 #[v] w fun e w' => e = .returned (.bool true) ∧ Below w.heap.size w w' := by
  obtain ⟨a0, n0, cap0, b0, off0, rfl, hcap0, hmax0, ha0, hc0⟩ := id h
  unfold maxLen at hmax0
  clear ha0 hc0
  have H := Lib.hid h
  clear h
  by_cases hn : 1048576 < n0
  · go_enter Try.func8, Try.ntmps8
    go_wp2
    go_ret
    exact ⟨rfl, Below.refl _ _⟩
  go_enter Try.func8, Try.ntmps8
  go_wp2_with fail
  refine (drawSU _ _ H.out).mono ?_
  rintro e w1 ⟨⟨n, u, ls, a, x, s, rfl, hls, hT, hs, hP, _, _⟩, hb⟩
  have L1 : LwS w w1.heap.size n u ls x s (w1.alloc (.cells #[.int .i64 n, u] 25)) := LwS.new hb hT hP
  obtain ⟨ua, uc, rfl, hul, hum⟩ := hT.form2
  obtain ⟨xa, xc, rfl, hxl, hxm⟩ := hP.form2
  unfold maxLen at hum hxm
  have HL := Lib.hid L1
  clear hb L1 hT hP
  obtain ⟨U, hU⟩ : ∃ U, unqV n ls a s = U := ⟨_, rfl⟩
  have HUV := Lib.hid hU
  clear hU
  go_wp2_with fail
  refine (iStackUnique n ls a s _ _ _ HL.out.tri HL.out.prs).mono ?_
  rw [HUV.out]
  rintro e w2 ⟨rfl, hb⟩
  replace HL := Lib.hid (HL.out.below hb)
  obtain ⟨c0, c1, f0, f1, l0⟩ := box2 HL.out.box
  clear hb
  go_wp2_with fail
  refine (sStackUnique n ls a s _ _ _ HL.out.tri HL.out.prs).mono ?_
  rw [HUV.out]
  rintro e w3 ⟨rfl, hb⟩
  replace HL := Lib.hid (HL.out.below hb)
  clear hb c0 c1 f0 f1 l0
  cases U with
  | true =>
    go_wp2_with fail
    go_ret
    exact ⟨rfl, HL.out.bw⟩
  | false =>
    obtain ⟨i0, hi, hz0, hz1, hz2⟩ := info_parts infoLab
    have hmid : ∀ k : Nat, k < s.length → ∀ W : World, (Instr.slice 26 (.slice xa s.length xc) (some (.int .i64 (k : Int))) (some (.int .i64 ((k : Int) + 1))) none).run Try.prog W = .ok (.slice (cutA xa xc k 2) 1 (xc - k)) W := fun k hk W => by
      have h1 := run_mid (A := xa) (n := s.length) (c := xc) (l := (k:Int)) (k := (k:Int) + 1) Try.underlying26 hi k (k + 1) rfl (by omega) (by omega) (by omega) W
      rw [hz1, Nat.add_sub_cancel_left] at h1
      exact h1
    have HMID := Lib.hid hmid
    obtain ⟨m, hm⟩ : ∃ m, s.length = m := ⟨_, rfl⟩
    have HM := Lib.hid hm
    rw [hm] at HL hxl HMID hs ⊢
    clear hi hz0 hz1 hz2 hmid hm
    have HL3 := HL
    clear HL
    go_wp2_with fail
    go_loopw [8, 9] (fun av i wr => ∃ (k : Nat) (c : Int), k ≤ m ∧ i = .int .i64 k ∧ av = .int .i64 c ∧ Hid (WaysTo n ls a s k c) ∧ Below w3.heap.size w3 wr) (fun _ i _ => m - (intOf i).toNat)
    case atStart => exact ⟨0, a, by omega, rfl, rfl, Lib.hid (.inl ⟨rfl, rfl⟩), Below.refl _ _⟩
    case round =>
      obtain ⟨k, c, hk, rfl, rfl, hW, hB⟩ := hrel
      have HB := Lib.hid hB
      have HL := Lib.hid (HL3.out.below hB)
      clear hB
      obtain ⟨c0, c1, f0, f1, l0⟩ := box2 HL.out.box
      by_cases hkm : k < m
      rotate_left
      · have t1 : decide ((k:Int) < (m:Int)) = false := decide_eq_false (by omega)
        have hno : stkOf n ls a s = none := ways_end (by rw [HM.out, ← show k = m by omega]; exact hW.out) HUV.out
        have HNO := Lib.hid hno
        clear hno
        go_wp2_with fail
        refine (iEndNo HNO.out HL.out.tri HL.out.prs).mono ?_
        rintro e w6 ⟨rfl, hb⟩
        have HLz := Lib.hid (HL.out.below hb)
        clear hb c0 c1 f0 f1 l0
        go_wp2_with fail
        go_ret
        exact ⟨rfl, HLz.out.bw⟩
      have t1 : decide ((k:Int) < (m:Int)) = true := decide_eq_true (by omega)
      obtain ⟨⟨p1, p2⟩, hp⟩ := at_lt (l := s) (n := s.length) rfl (k := k) (by have := HM.out; omega)
      have hcut := HMID.out k hkm
      have hcp := cutP HL.out.prs k (k + 1) (by omega) (by have := HM.out; omega)
      rw [take_drop_one hp, Nat.add_sub_cancel_left] at hcp
      have HCP := Lib.hid hcp
      have wk : IntKind.i64.wrap ((k:Int) + 1) = (k:Int) + 1 := IntWalk.i64_in _ (by omega)
      have hk0 : (0:Int) ≤ (k:Int) := by omega
      have hk1 : (k:Int) < (m:Int) := by omega
      have HP := Lib.hid hp
      clear hp hcp
      rcases hq1 : stkOf n ls c [(p1, p2)] with _ | q1
      · have HQ1 := Lib.hid hq1
        clear hq1
        go_wp2_with fail
        replace HL := Lib.hid HL.out.drew
        replace HCP := Lib.hid (HCP.out.below (Below.refl _ _).drew (Nat.le_refl _))
        refine wp_region_noPanic ?_
        refine wp_region_held_drew (S := (fun w' => w'.cell? ⟨w1.heap.size, 0, none⟩ = some (.int .i64 n) ∧ w'.cell? ⟨w1.heap.size, 1, none⟩ = some (.slice ua ls.length uc))) (by kernel_rfl) (by ((try dsimp only); (first | go_keep | exact ⟨c0, c1⟩))) (fun hHeld => ?_)
        refine wpAnyH_take (i := 0) (oi := _) (v := ?_) rfl (by kernel_rfl) (by kernel_rfl) (by kernel_rfl) (fun _ _ _ h => h) (Or.inl ⟨by rfl, ?_⟩) (by assumption) ?_
        rotate_left
        focus (intro w hSw; (try dsimp only at hSw); go_simp; try (with_reducible rfl))
        try simp only [List.getElem_toArray, List.getElem_cons_zero, List.getElem_cons_succ, Act.put, List.setIfInBounds_toArray, List.set_cons_zero, List.set_cons_succ]
        refine wpAnyH_take (i := 1) (oi := _) (v := ?_) rfl (by kernel_rfl) (by kernel_rfl) (by kernel_rfl) (fun _ _ _ h => h) (Or.inl ⟨by rfl, ?_⟩) (by assumption) ?_
        rotate_left
        focus (intro w hSw; (try dsimp only at hSw); go_simp; try (with_reducible rfl))
        try simp only [List.getElem_toArray, List.getElem_cons_zero, List.getElem_cons_succ, Act.put, List.setIfInBounds_toArray, List.set_cons_zero, List.set_cons_succ]
        refine wpAnyH_take (i := 2) (oi := _) (v := ?_) rfl (by kernel_rfl) (by kernel_rfl) (by kernel_rfl) (fun _ _ _ h => h) (Or.inl ⟨by rfl, ?_⟩) (by assumption) ?_
        rotate_left
        focus (intro w hSw; (try dsimp only at hSw); go_simp; try (with_reducible rfl))
        try simp only [List.getElem_toArray, List.getElem_cons_zero, List.getElem_cons_succ, Act.put, List.setIfInBounds_toArray, List.set_cons_zero, List.set_cons_succ]
        refine wpAnyH_take (i := 3) (oi := _) (v := ?_) rfl (by kernel_rfl) (by kernel_rfl) (by kernel_rfl) (fun _ _ _ h => h) (Or.inl ⟨by rfl, ?_⟩) (by assumption) ?_
        rotate_left
        focus (intro w hSw; (try dsimp only at hSw); go_simp; try (with_reducible rfl))
        try simp only [List.getElem_toArray, List.getElem_cons_zero, List.getElem_cons_succ, Act.put, List.setIfInBounds_toArray, List.set_cons_zero, List.set_cons_succ]
        refine wpAnyH_take (i := 4) (oi := _) (v := ?_) rfl (by kernel_rfl) (by kernel_rfl) (by kernel_rfl) (fun _ _ _ h => h) (Or.inl ⟨by rfl, ?_⟩) (by assumption) ?_
        rotate_left
        focus (intro w hSw; (try dsimp only at hSw); go_simp; try (with_reducible rfl))
        try simp only [List.getElem_toArray, List.getElem_cons_zero, List.getElem_cons_succ, Act.put, List.setIfInBounds_toArray, List.set_cons_zero, List.set_cons_succ]
        refine wpAnyH_take (i := 5) (oi := _) (v := ?_) rfl (by kernel_rfl) (by kernel_rfl) (by kernel_rfl) (fun _ _ _ h => h) (Or.inl ⟨by rfl, ?_⟩) (by assumption) ?_
        rotate_left
        focus (intro w hSw; (try dsimp only at hSw); go_simp; try (with_reducible rfl))
        try simp only [List.getElem_toArray, List.getElem_cons_zero, List.getElem_cons_succ, Act.put, List.setIfInBounds_toArray, List.set_cons_zero, List.set_cons_succ]
        refine wpAnyH_ready (rs := [6]) (by kernel_rfl) (by simp) ?_
        refine AllReadyH.cons (o := _) rfl (fun K hK => ?_) AllReadyH.nil
        go_simp
        refine hK.out _ _ (by ((try dsimp only); (first | go_keep | exact ⟨c0, c1⟩))) (fun hHeld => ?_)
        clear hK K
        try simp only [List.getElem_toArray, List.getElem_cons_zero, List.getElem_cons_succ, Act.put, List.setIfInBounds_toArray, List.set_cons_zero, List.set_cons_succ]
        refine wpAnyH_ready (rs := [7]) (by kernel_rfl) (by simp) ?_
        refine AllReadyH.cons (o := _) rfl (fun K hK => ?_) AllReadyH.nil
        go_simp
        (go_at_call 17; refine (iEndNo HQ1.out HL.out.tri HCP.out).mono ?_; rintro e w6 ⟨rfl, hb⟩; replace HL := Lib.hid (HL.out.below hb); clear hb c0 c1 f0 f1 l0; obtain ⟨c0, c1, f0, f1, l0⟩ := box2 HL.out.box)
        refine hK.out _ _ (by ((try dsimp only); (first | go_keep | exact ⟨c0, c1⟩))) (fun hHeld => ?_)
        clear hK K
        try simp only [List.getElem_toArray, List.getElem_cons_zero, List.getElem_cons_succ, Act.put, List.setIfInBounds_toArray, List.set_cons_zero, List.set_cons_succ]
        refine wpAnyH_take (i := 8) (oi := _) (v := ?_) rfl (by kernel_rfl) (by kernel_rfl) (by kernel_rfl) (fun _ _ _ h => h) (Or.inl ⟨by rfl, ?_⟩) (by assumption) ?_
        rotate_left
        focus (intro w hSw; (try dsimp only at hSw); go_simp; try (with_reducible rfl))
        try simp only [List.getElem_toArray, List.getElem_cons_zero, List.getElem_cons_succ, Act.put, List.setIfInBounds_toArray, List.set_cons_zero, List.set_cons_succ]
        refine wpAnyH_take (i := 9) (oi := _) (v := ?_) rfl (by kernel_rfl) (by kernel_rfl) (by kernel_rfl) (fun _ _ _ h => h) (Or.inl ⟨by rfl, ?_⟩) (by assumption) ?_
        rotate_left
        focus (intro w hSw; (try dsimp only at hSw); go_simp; try (with_reducible rfl))
        try simp only [List.getElem_toArray, List.getElem_cons_zero, List.getElem_cons_succ, Act.put, List.setIfInBounds_toArray, List.set_cons_zero, List.set_cons_succ]
        refine wpAnyH_take (i := 10) (oi := _) (v := ?_) rfl (by kernel_rfl) (by kernel_rfl) (by kernel_rfl) (fun _ _ _ h => h) (Or.inl ⟨by rfl, ?_⟩) (by assumption) ?_
        rotate_left
        focus (intro w hSw; (try dsimp only at hSw); go_simp; try (with_reducible rfl))
        try simp only [List.getElem_toArray, List.getElem_cons_zero, List.getElem_cons_succ, Act.put, List.setIfInBounds_toArray, List.set_cons_zero, List.set_cons_succ]
        refine wpAnyH_take (i := 11) (oi := _) (v := ?_) rfl (by kernel_rfl) (by kernel_rfl) (by kernel_rfl) (fun _ _ _ h => h) (Or.inl ⟨by rfl, ?_⟩) (by assumption) ?_
        rotate_left
        focus (intro w hSw; (try dsimp only at hSw); go_simp; try (with_reducible rfl))
        try simp only [List.getElem_toArray, List.getElem_cons_zero, List.getElem_cons_succ, Act.put, List.setIfInBounds_toArray, List.set_cons_zero, List.set_cons_succ]
        refine wpAnyH_take (i := 12) (oi := _) (v := ?_) rfl (by kernel_rfl) (by kernel_rfl) (by kernel_rfl) (fun _ _ _ h => h) (Or.inl ⟨by rfl, ?_⟩) (by assumption) ?_
        rotate_left
        focus (intro w hSw; (try dsimp only at hSw); go_simp; try (with_reducible rfl))
        try simp only [List.getElem_toArray, List.getElem_cons_zero, List.getElem_cons_succ, Act.put, List.setIfInBounds_toArray, List.set_cons_zero, List.set_cons_succ]
        refine wpAnyH_done (by kernel_rfl) ?_ _
        refine NoPanic.normal ?_
        go_wp2_with fail
        go_ret
        exact ⟨rfl, HL.out.bw⟩
      · have HQ1 := Lib.hid hq1
        obtain ⟨b, hb1⟩ : ∃ b, lastN c q1 = b := ⟨_, rfl⟩
        have HB1 := Lib.hid hb1
        have HF1 := Lib.hid (stkOf_some hq1)
        have hbn : nd n.toNat b := by rw [← hb1]; exact HF1.out.last
        have HBN := Lib.hid hbn
        clear hq1 hb1 hbn
        obtain ⟨xb, xo, hxa, hxb⟩ := HL.out.prs.some (by have := HM.out; omega)
        subst hxa
        go_wp2_with fail
        replace HL := Lib.hid HL.out.drew
        replace HCP := Lib.hid (HCP.out.below (Below.refl _ _).drew (Nat.le_refl _))
        have HB2 := Lib.hid HB.out.drew
        refine wp_region_noPanic ?_
        refine wp_region_held_drew (S := (fun w' => w'.cell? ⟨w1.heap.size, 0, none⟩ = some (.int .i64 n) ∧ w'.cell? ⟨w1.heap.size, 1, none⟩ = some (.slice ua ls.length uc))) (by kernel_rfl) (by ((try dsimp only); (first | go_keep | exact ⟨c0, c1⟩))) (fun hHeld => ?_)
        refine wpAnyH_take (i := 0) (oi := _) (v := ?_) rfl (by kernel_rfl) (by kernel_rfl) (by kernel_rfl) (fun _ _ _ h => h) (Or.inl ⟨by rfl, ?_⟩) (by assumption) ?_
        rotate_left
        focus (intro w hSw; (try dsimp only at hSw); go_simp; try (with_reducible rfl))
        try simp only [List.getElem_toArray, List.getElem_cons_zero, List.getElem_cons_succ, Act.put, List.setIfInBounds_toArray, List.set_cons_zero, List.set_cons_succ]
        refine wpAnyH_take (i := 1) (oi := _) (v := ?_) rfl (by kernel_rfl) (by kernel_rfl) (by kernel_rfl) (fun _ _ _ h => h) (Or.inl ⟨by rfl, ?_⟩) (by assumption) ?_
        rotate_left
        focus (intro w hSw; (try dsimp only at hSw); go_simp; try (with_reducible rfl))
        try simp only [List.getElem_toArray, List.getElem_cons_zero, List.getElem_cons_succ, Act.put, List.setIfInBounds_toArray, List.set_cons_zero, List.set_cons_succ]
        refine wpAnyH_take (i := 2) (oi := _) (v := ?_) rfl (by kernel_rfl) (by kernel_rfl) (by kernel_rfl) (fun _ _ _ h => h) (Or.inl ⟨by rfl, ?_⟩) (by assumption) ?_
        rotate_left
        focus (intro w hSw; (try dsimp only at hSw); go_simp; try (with_reducible rfl))
        try simp only [List.getElem_toArray, List.getElem_cons_zero, List.getElem_cons_succ, Act.put, List.setIfInBounds_toArray, List.set_cons_zero, List.set_cons_succ]
        refine wpAnyH_take (i := 3) (oi := _) (v := ?_) rfl (by kernel_rfl) (by kernel_rfl) (by kernel_rfl) (fun _ _ _ h => h) (Or.inl ⟨by rfl, ?_⟩) (by assumption) ?_
        rotate_left
        focus (intro w hSw; (try dsimp only at hSw); go_simp; try (with_reducible rfl))
        try simp only [List.getElem_toArray, List.getElem_cons_zero, List.getElem_cons_succ, Act.put, List.setIfInBounds_toArray, List.set_cons_zero, List.set_cons_succ]
        refine wpAnyH_take (i := 4) (oi := _) (v := ?_) rfl (by kernel_rfl) (by kernel_rfl) (by kernel_rfl) (fun _ _ _ h => h) (Or.inl ⟨by rfl, ?_⟩) (by assumption) ?_
        rotate_left
        focus (intro w hSw; (try dsimp only at hSw); go_simp; try (with_reducible rfl))
        try simp only [List.getElem_toArray, List.getElem_cons_zero, List.getElem_cons_succ, Act.put, List.setIfInBounds_toArray, List.set_cons_zero, List.set_cons_succ]
        refine wpAnyH_take (i := 5) (oi := _) (v := ?_) rfl (by kernel_rfl) (by kernel_rfl) (by kernel_rfl) (fun _ _ _ h => h) (Or.inl ⟨by rfl, ?_⟩) (by assumption) ?_
        rotate_left
        focus (intro w hSw; (try dsimp only at hSw); go_simp; try (with_reducible rfl))
        try simp only [List.getElem_toArray, List.getElem_cons_zero, List.getElem_cons_succ, Act.put, List.setIfInBounds_toArray, List.set_cons_zero, List.set_cons_succ]
        refine wpAnyH_ready (rs := [6]) (by kernel_rfl) (by simp) ?_
        refine AllReadyH.cons (o := _) rfl (fun K hK => ?_) AllReadyH.nil
        go_simp
        refine hK.out _ _ (by ((try dsimp only); (first | go_keep | exact ⟨c0, c1⟩))) (fun hHeld => ?_)
        clear hK K
        try simp only [List.getElem_toArray, List.getElem_cons_zero, List.getElem_cons_succ, Act.put, List.setIfInBounds_toArray, List.set_cons_zero, List.set_cons_succ]
        refine wpAnyH_ready (rs := [7]) (by kernel_rfl) (by simp) ?_
        refine AllReadyH.cons (o := _) rfl (fun K hK => ?_) AllReadyH.nil
        go_simp
        (go_at_call 17; refine (iEndYes HQ1.out HB1.out HL.out.tri HCP.out).mono ?_; rintro e w6 ⟨rfl, hb⟩; replace HL := Lib.hid (HL.out.below hb); replace HB2 := Lib.hid (HB2.out.trans (hb.mono HB2.out.size)); clear hb c0 c1 f0 f1 l0; obtain ⟨c0, c1, f0, f1, l0⟩ := box2 HL.out.box)
        refine hK.out _ _ (by ((try dsimp only); (first | go_keep | exact ⟨c0, c1⟩))) (fun hHeld => ?_)
        clear hK K
        try simp only [List.getElem_toArray, List.getElem_cons_zero, List.getElem_cons_succ, Act.put, List.setIfInBounds_toArray, List.set_cons_zero, List.set_cons_succ]
        refine wpAnyH_take (i := 8) (oi := _) (v := ?_) rfl (by kernel_rfl) (by kernel_rfl) (by kernel_rfl) (fun _ _ _ h => h) (Or.inl ⟨by rfl, ?_⟩) (by assumption) ?_
        rotate_left
        focus (intro w hSw; (try dsimp only at hSw); go_simp; try (with_reducible rfl))
        try simp only [List.getElem_toArray, List.getElem_cons_zero, List.getElem_cons_succ, Act.put, List.setIfInBounds_toArray, List.set_cons_zero, List.set_cons_succ]
        refine wpAnyH_take (i := 9) (oi := _) (v := ?_) rfl (by kernel_rfl) (by kernel_rfl) (by kernel_rfl) (fun _ _ _ h => h) (Or.inl ⟨by rfl, ?_⟩) (by assumption) ?_
        rotate_left
        focus (intro w hSw; (try dsimp only at hSw); go_simp; try (with_reducible rfl))
        try simp only [List.getElem_toArray, List.getElem_cons_zero, List.getElem_cons_succ, Act.put, List.setIfInBounds_toArray, List.set_cons_zero, List.set_cons_succ]
        refine wpAnyH_take (i := 10) (oi := _) (v := ?_) rfl (by kernel_rfl) (by kernel_rfl) (by kernel_rfl) (fun _ _ _ h => h) (Or.inl ⟨by rfl, ?_⟩) (by assumption) ?_
        rotate_left
        focus (intro w hSw; (try dsimp only at hSw); go_simp; try (with_reducible rfl))
        try simp only [List.getElem_toArray, List.getElem_cons_zero, List.getElem_cons_succ, Act.put, List.setIfInBounds_toArray, List.set_cons_zero, List.set_cons_succ]
        refine wpAnyH_take (i := 11) (oi := _) (v := ?_) rfl (by kernel_rfl) (by kernel_rfl) (by kernel_rfl) (fun _ _ _ h => h) (Or.inl ⟨by rfl, ?_⟩) (by assumption) ?_
        rotate_left
        focus (intro w hSw; (try dsimp only at hSw); go_simp; try (with_reducible rfl))
        try simp only [List.getElem_toArray, List.getElem_cons_zero, List.getElem_cons_succ, Act.put, List.setIfInBounds_toArray, List.set_cons_zero, List.set_cons_succ]
        refine wpAnyH_take (i := 12) (oi := _) (v := ?_) rfl (by kernel_rfl) (by kernel_rfl) (by kernel_rfl) (fun _ _ _ h => h) (Or.inl ⟨by rfl, ?_⟩) (by assumption) ?_
        rotate_left
        focus (intro w hSw; (try dsimp only at hSw); go_simp; try (with_reducible rfl))
        try simp only [List.getElem_toArray, List.getElem_cons_zero, List.getElem_cons_succ, Act.put, List.setIfInBounds_toArray, List.set_cons_zero, List.set_cons_succ]
        refine wpAnyH_done (by kernel_rfl) ?_ _
        refine NoPanic.normal ?_
        obtain ⟨d0, d1⟩ := HL.out.prs.get HP.out
        by_cases hp1 : p1 = 1
        rotate_left
        · have t2 : (p1 == 1) = false := by simpa using hp1
          have HS := Lib.hid (ways_step hW.out HP.out HQ1.out HB1.out (.inl hp1))
          clear hp1
          go_wp2_with fail
          go_roundw
          case rel => exact ⟨k + 1, b, by omega, by go_num, rfl, HS, HB2.out⟩
          case measure => simp [intOf]; omega
        · subst hp1
          have t2 : ((1:Int) == 1) = true := by simp
          obtain ⟨cn, hcn⟩ : ∃ cn, cntG n ls c b = cn := ⟨_, rfl⟩
          have HCN := Lib.hid hcn
          go_wp2_with fail
          refine (iPathCount n ls c b _ _ HL.out.tri HF1.out.ok HF1.out.nd HBN.out).mono ?_
          rw [HCN.out]
          rintro e w7 ⟨rfl, hb⟩
          have HLz := Lib.hid (HL.out.below hb)
          have HB3 := Lib.hid (HB2.out.trans (hb.mono HB2.out.size))
          by_cases hc1 : 1 < cn
          · have t3 : decide (1 < cn) = true := decide_eq_true hc1
            clear hb c0 c1 f0 f1 l0 d0 d1
            go_wp2_with fail
            go_ret
            exact ⟨rfl, HLz.out.bw⟩
          · have t3 : decide (1 < cn) = false := decide_eq_false hc1
            have HS := Lib.hid (ways_step hW.out HP.out HQ1.out HB1.out (.inr (by rw [hcn]; omega)))
            clear hb c0 c1 f0 f1 l0 d0 d1 hcn
            go_wp2_with fail
            go_roundw
            case rel => exact ⟨k + 1, b, by omega, by go_num, rfl, HS, HB3.out⟩
            case measure => simp [intOf]; omega
theorem own : ownKnob Try.prog.godebug = none := by kernel_rfl
theorem laidOut : laidOutB Try.prog = true := by kernel_rfl
set_option maxRecDepth 100000 in
theorem lifted (os : Os) (started : os.Started) (H : Type) (enc : TypeId × Value → H) :
    ReturnsInHanded {} Try.checked os 8 .any (Rows.fnStackWaysSpec.pre6 enc Try.prog Try.f8 Rows.fnStackWaysRow.domain false) (Rows.fnStackWaysSpec.post enc Try.prog Try.f8 false true false false) := by
  refine returnsInHanded_of_change (C := Try.checked) own started (by kernel_rfl) Try.func8
    (ChangeSpec.witness6 (enc := enc) (C := Try.checked) false ⟨#[], #[.slice none 0 0], []⟩ 8 (by kernel_rfl) (by kernel_rfl) (by kernel_rfl) (by kernel_rfl)) ?_
  intro W base args ds gs before hval0 hW hcnd _
  have hval : ∀ (j : Nat) t v, Try.f8.params[j]? = some t → args[j]? = some v → Value.okWide Try.prog W .any base t v := hval0
  have hW' := hW
  obtain ⟨p, q, hA0, hV, rfl, hfz, hnd⟩ := hW
  have hA : DataW.TrodAll enc Try.prog W 0 (fun _ => true) true Try.f8.params.toList args.toList ds p := hA0
  rw [Try.params8] at hA hval
  obtain ⟨v0, vs0, d0, ds0, p0, q0, hargs, rfl, rfl, h0, r0⟩ := trodAll_cons hA
  obtain ⟨rfl, rfl, rfl⟩ := trodAll_nil r0
  obtain rfl : args = #[v0] := by cases args; simp_all
  obtain ⟨rfl, rfl⟩ := trodVars_none hV
  have k0 := h0
  have lt0 : ∀ x ∈ p0, x.block < W.heap.size := by obtain ⟨m, hm⟩ := k0; exact DataW.trod_lt m _ _ _ hm
  have w0 : CodeAt W v0 := codeAt_of_trod (T := 22) (E := 5) Try.underlying22 Try.underlying5 (by kernel_rfl) (hval 0 22 v0 rfl rfl) h0
  clear hA0 hval0
  refine (walk v0 W w0).mono fun e W' ⟨he, bel⟩ => ?_
  subst he
  exact ⟨_, rfl, _, _, _, [], _, [], hW', trodAll_mk1 (shut_bool Try.underlying4 _), (trodAll_cons_mk (Below.trod laidOut (by kernel_rfl) (of_decide_eq_true (by kernel_rfl)) k0 bel lt0) trodAll_mk0), rfl, bel.frame _, fun h => by cases h⟩
theorem over : Rows.fnStackWaysRow.holds Try.pinned (OpenSpec.ofChange Rows.fnStackWaysSpec) :=
  OpenClaim.holds_of_wide 8 Try.f8 rfl rfl rfl rfl rfl rfl rfl ⟨rfl, rfl, rfl, rfl, rfl⟩ rfl rfl rfl rfl rfl (by kernel_rfl) Try.func8 (by kernel_rfl)
    (of_decide_eq_true (by kernel_rfl)) (by unfold Func.isWrapper; first | (rw [if_pos (by decide +kernel)]; kernel_rfl) | (rw [if_neg (by decide +kernel)]; exact ⟨rfl, rfl⟩))
    (fun os started H enc _ => lifted os started H enc)
end Go.Proofs.Ytkegainegkdgpaa.lawFnStackWays
namespace Go.Proofs.Ytkegainegkdgpaa
set_option linter.unusedSimpArgs false
set_option linter.unusedVariables false
/-- The statement. -/
theorem FnStackWays_proved : Rows.FnStackWaysSaid := lawFnStackWays.over
#print axioms FnStackWays_proved
end Go.Proofs.Ytkegainegkdgpaa
