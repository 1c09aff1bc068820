/- Marks on announcements. -/
import Derived.Test.YtnnkdoomjkccgaaMark
namespace Go.Proofs.Ytnnkdoomjkccgaa
set_option linter.unusedSimpArgs false
set_option linter.unusedVariables false
open Go.RowKit

/-- The counter behind the marks of some announcements. -/
def endK (k : Int) : List LsaD → Int
  | [] => k
  | d :: db => endK (k + 2 + 2 * d.2.2.length) db
def markL (k : Int) : List LsaD → List LsaD
  | [] => []
  | d :: db => (k, k + 1, markE (k + 2) d.2.2.length) :: markL (k + 2 + 2 * d.2.2.length) db
theorem markL_len : ∀ (db : List LsaD) (k : Int), (markL k db).length = db.length
  | [], _ => rfl
  | d :: db, k => by simp [markL, markL_len db]
theorem endK_snoc : ∀ (db : List LsaD) (k : Int) (d : LsaD), endK k (db ++ [d]) = endK k db + 2 + 2 * d.2.2.length
  | [], _, _ => rfl
  | e :: db, k, d => endK_snoc db _ d
theorem markL_snoc : ∀ (db : List LsaD) (k : Int) (d : LsaD), markL k (db ++ [d]) = markL k db ++ [(endK k db, endK k db + 1, markE (endK k db + 2) d.2.2.length)]
  | [], _, _ => rfl
  | e :: db, k, d => by simp [markL, endK, markL_snoc db]
theorem endK_le : ∀ (db : List LsaD) (k : Int), k ≤ endK k db
  | [], k => Int.le_refl k
  | e :: db, k => by have := endK_le db (k + 2 + 2 * e.2.2.length); simp only [endK]; omega
theorem endK_take : ∀ (db : List LsaD) (k : Int) (i : Nat), endK k (db.take i) ≤ endK k db
  | [], k, i => by simp [endK]
  | e :: db, k, 0 => by simpa [endK] using Int.le_trans (endK_le (e :: db) k) (Int.le_refl _)
  | e :: db, k, i + 1 => by simpa [endK] using endK_take db _ i
theorem cellsL_set : ∀ (db : List LsaD) (us : List Value) (i : Nat) (o s : Int) (es : List (Int × Int)), us.length = db.length → i < db.length →
    cellsL (db.set i (o, s, es)) us = ((cellsL db us).set (i * 3) (.int .i64 o)).set (i * 3 + 1) (.int .i64 s)
  | [], _, _, _, _, _, _, h => by simp at h
  | _ :: _, [], _, _, _, _, h, _ => by simp at h
  | (o', s', es') :: db, u :: us, 0, o, s, es, _, _ => rfl
  | (o', s', es') :: db, u :: us, i + 1, o, s, es, h, hi => by
    have := cellsL_set db us i o s es (by simpa using h) (by simpa using hi)
    have e0 : (i + 1) * 3 = (i * 3) + 1 + 1 + 1 := by omega
    rw [e0]
    simpa [cellsL] using this
theorem EndsOwn.put {w w' : World} {lo hi : Nat} {tE : TypeId} {db : List LsaD} {us : List Value} {i : Nat} {u : Value} {o s : Int} {es : List (Int × Int)} (h : EndsOwn w lo hi tE db us) (hu : us[i]? = some u) (hg : w.grownBy w' u.ownBlock) (hn : OwnR w' lo hi tE 2 u es.length (cells2 es)) : EndsOwn w' lo hi tE (db.set i (o, s, es)) us := by
  refine ⟨by simp [h.len], fun k o' s' es' u' hk hu' => ?_, h.apart⟩
  by_cases hki : k = i
  · subst hki
    rw [hu] at hu'
    injection hu' with hu'
    subst hu'
    rw [List.getElem?_set_self (by have := (List.getElem?_eq_some_iff.1 hk).1; simpa using this)] at hk
    simp at hk
    obtain ⟨rfl, rfl, rfl⟩ := hk
    exact hn
  · rw [List.getElem?_set_ne (fun e => hki e.symm)] at hk
    refine (h.ends k o' s' es' u' hk hu').kept hg (fun g hg' e => ?_)
    rcases Nat.lt_or_gt_of_ne hki with h1 | h1
    · exact h.apart k i u' u h1 hu' hu g hg' e
    · exact h.apart i k u u' h1 hu hu' g e hg'
def MarkLsPost (w : World) (lo hi : Nat) (v : Value) (db : List LsaD) (us : List Value) (k : Int) (e : Ending) (w' : World) : Prop :=
  e = .returned (.int .i64 (endK k db)) ∧ OwnLs w' lo hi 41 43 v (markL k db) us ∧ Btw lo hi w w'
theorem mix_at {db : List LsaD} {k : Int} {i j : Nat} (hj : i ≤ j) (hi : i ≤ db.length) : (markL k (db.take i) ++ db.drop i)[j]? = db[j]? := by
  rw [List.getElem?_append_right (by rw [markL_len, List.length_take]; omega), markL_len, List.length_take, List.getElem?_drop]
  congr 1
  omega
theorem mix_succ {db : List LsaD} {k : Int} {i : Nat} {d : LsaD} (h : db[i]? = some d) : (markL k (db.take i) ++ db.drop i).set i (endK k (db.take i), endK k (db.take i) + 1, markE (endK k (db.take i) + 2) d.2.2.length) = markL k (db.take (i + 1)) ++ db.drop (i + 1) := by
  obtain ⟨hl, he⟩ := List.getElem?_eq_some_iff.1 h
  have hlen : (markL k (db.take i)).length = i := by rw [markL_len, List.length_take]; omega
  rw [take_snoc_of h, markL_snoc, List.drop_eq_getElem_cons hl, List.set_append_right _ _ (by omega), hlen]
  simp
  rw [List.drop_eq_getElem_cons hl]
  rfl
/-- What holds in the loop. -/
def MarkLoop (w : World) (lo hi : Nat) (g cap n : Nat) (db : List LsaD) (us : List Value) (k : Int) (i : Nat) (wr : World) : Prop :=
  wr.ownsRow lo 41 3 (.slice (some ⟨g, 0, none⟩) n cap) n (cellsL (markL k (db.take i) ++ db.drop i) us) ∧ EndsOwn wr lo hi 43 (markL k (db.take i) ++ db.drop i) us ∧ Btw lo hi w wr
set_option maxHeartbeats 1000000 in
theorem markLsaS_any (lo hi : Nat) (v : Value) (db : List LsaD) (us : List Value) (k : Int) (w : World) (h : OwnLs w lo hi 41 43 v db us) (hk : 0 ≤ k) (hk1 : endK k db ≤ 1000000000000) : Calls Try.prog 15 #[v, .int .i64 k] w (MarkLsPost w lo hi v db us k) := by
  have H := Lib.hid h
  rcases h.row.1.2 with ⟨rfl, h0⟩ | ⟨g, cap, cur, rfl, hlo, hh, hnc, hcm, _⟩
  · have hx : db = [] := List.eq_nil_of_length_eq_zero h0
    subst hx
    have hd : decide (((0:Nat):Int) < ((0:Nat):Int)) = false := by simp
    clear h h0
    go_enter Try.func15, Try.ntmps15
    go_wp2_with fail
    refine wp_loop_rounds 1 ?_
    rw [rounds_succ]
    go_wp2_with fail
    go_ret
    exact ⟨rfl, H.out, Btw.refl _ _ _⟩
  · have hhi : g < hi := h.row.2 g rfl
    have hcm2 : cap ≤ 9223372036854775807 := by unfold maxLen at hcm; omega
    obtain ⟨n, hn⟩ : ∃ n, n = db.length := ⟨_, rfl⟩
    have hr0 := h.row.1
    have HL0 : Hid (MarkLoop w lo hi g cap n db us k 0 w) := Lib.hid ⟨by simpa [markL, hn] using hr0, by simpa [markL] using h.own, Btw.refl _ _ _⟩
    rw [← hn] at hnc ⊢
    have HN := Lib.hid hn
    have HK := Lib.hid hk1
    clear h hr0 hh hn hk1
    go_enter Try.func15, Try.ntmps15
    go_wp2_with fail
    go_loopw [1, 5] (fun c i wr => ∃ (j : Nat) (x : Int), j ≤ n ∧ i = .int .i64 j ∧ c = .int .i64 x ∧ 0 ≤ x ∧ x ≤ 1000000000000 ∧ Hid (x = endK k (db.take j)) ∧ MarkLoop w lo hi g cap n db us k j wr) (fun _ i _ => n - (intOf i).toNat)
    case atStart => exact ⟨0, k, Nat.zero_le _, rfl, rfl, hk, by have := HK.out; have := endK_le db k; omega, Lib.hid (by simp [endK]), HL0.out⟩
    case round =>
      obtain ⟨j, x, hj, rfl, rfl, hx0, hx1, HX, hr, ho, hb⟩ := hrel
      clear HL0
      by_cases hjn : j < n
      · have hul := ho.len
        obtain ⟨⟨o, s, es⟩, hd⟩ := at_lt HN.out hjn
        have hmx := mix_at (db := db) (k := k) (i := j) (j := j) (Nat.le_refl _) (by have := HN.out; omega)
        rw [hd] at hmx
        obtain ⟨u, hu⟩ := at_lt (l := us) (n := us.length) rfl (k := j) (by have := (List.getElem?_eq_some_iff.1 hmx).1; omega)
        obtain ⟨c0, c1, c2⟩ := cellsL_at hmx hu
        have q0 := (hr.cellAt (j * 3) (by omega)).trans c0
        have q1 := (hr.cellAt (j * 3 + 1) (by omega)).trans c1
        have q2 := (hr.cellAt (j * 3 + 2) (by omega)).trans c2
        have f0 := hr.frozenAt (j * 3)
        have f1 := hr.frozenAt (j * 3 + 1)
        have hend := ho.ends j o s es u hmx hu
        obtain ⟨ua, uc, rfl⟩ := own_slice hend.1
        have hne : ∀ g', (Value.slice ua es.length uc).ownBlock = some g' → g' ≠ g := fun g' hg' e => own_own_ne hend.1 hr (by decide) g' hg' (by rw [e]; rfl)
        have hnx : x + 2 + 2 * es.length ≤ 1000000000000 := by
          have h1 := endK_take db k (j + 1)
          rw [take_snoc_of hd, endK_snoc] at h1
          have h2 := HX.out
          have h3 := HK.out
          simp only at h1
          omega
        have hjI : (j : Int) < (n : Int) := by omega
        -- the row and the ends behind the two stores
        have hr2 := ((hr.stored (j * 3) (.int .i64 x)).1.stored (j * 3 + 1) (.int .i64 (x + 1))).1
        have husne : ∀ (y : Nat) (u' : Value), us[y]? = some u' → u'.ownBlock ≠ some g := fun y u' hu' => by
          obtain ⟨⟨o', s', es'⟩, hd'⟩ := at_lt (l := markL k (db.take j) ++ db.drop j) (n := (markL k (db.take j) ++ db.drop j).length) rfl (k := y) (by have := (List.getElem?_eq_some_iff.1 hu').1; omega)
          intro e
          exact own_own_ne (ho.ends y o' s' es' u' hd' hu').1 hr (by decide) g e rfl
        have ho2 : ∀ es2 : List (Int × Int), cellsL ((markL k (db.take j) ++ db.drop j).set j (x, x + 1, es2)) us = ((cellsL (markL k (db.take j) ++ db.drop j) us).set (j * 3) (.int .i64 x)).set (j * 3 + 1) (.int .i64 (x + 1)) := fun es2 => cellsL_set _ _ _ _ _ _ hul (List.getElem?_eq_some_iff.1 hmx).1
        have hg2 : wr.grownBy ((wr.setCell ⟨g, j * 3, none⟩ (.int .i64 x)).setCell ⟨g, j * 3 + 1, none⟩ (.int .i64 (x + 1))) (some g) := grown_setCell (grown_setCell (only_refl _ _) _ _) _ _
        have hend2 := hend.kept hg2 (fun g' hg' e => hne g' hg' (by injection e with e; exact e.symm))
        have HSE := Lib.hid (ho.block hg2 (fun g' e y u' hu' => by injection e with e; subst e; exact husne y u' hu'))
        have HUL := Lib.hid (hend.lt)
        have HR2 := Lib.hid hr2; have HO2 := Lib.hid ho2; have HG2 := Lib.hid hg2; have HE2 := Lib.hid hend2; have HOO := Lib.hid ho; have HB := Lib.hid hb; have HU := Lib.hid hu; have HD := Lib.hid hd; have HMX := Lib.hid hmx; have HNE := Lib.hid hne
        clear hr ho hb hr2 ho2 hg2 hend hend2 hu hd hmx c0 c1 c2 hne hul husne
        go_wp2_with fail
        rw [show x + 1 + 1 = x + 2 by omega]
        refine (markEndS_any lo hi _ es.length _ (x + 2) _ HE2.out (by omega) (by omega)).mono ?_
        rintro e w2 ⟨rfl, hO2, hg3⟩
        have hW : Btw lo hi w w2 := (HB.out.trans (Btw.grown HG2.out (fun g' e => by injection e with e; omega))).trans (Btw.grown hg3 (fun g' hg' => by have := HUL.out g' hg'; omega))
        have hset : (markL k (db.take j) ++ db.drop j).set j (x, x + 1, markE (x + 2) es.length) = markL k (db.take (j + 1)) ++ db.drop (j + 1) := by
          have := mix_succ (k := k) HD.out
          rw [← HX.out] at this
          exact this
        have hML : MarkLoop w lo hi g cap n db us k (j + 1) w2 := by
          refine ⟨?_, ?_, hW⟩
          · rw [← hset, HO2.out]
            exact HR2.out.kept hg3 (.inr (fun e => HNE.out g e.symm rfl))
          · rw [← hset]
            exact HSE.out.put HU.out hg3 (by rw [markE_len]; exact hO2)
        have HML := Lib.hid hML
        have HX2 : Hid (x + 2 + 2 * es.length = endK k (db.take (j + 1))) := by show _ = _; rw [take_snoc_of HD.out, endK_snoc, ← HX.out]
        clear hO2 hg3 hW hset hML
        go_wp2_with fail
        go_roundw
        case rel => exact ⟨j + 1, x + 2 + 2 * es.length, by omega, by go_num, rfl, by omega, hnx, HX2, HML.out⟩
        case measure => simp [intOf]; omega
      · obtain rfl : j = n := by omega
        have hx := HX.out
        rw [List.take_of_length_le (by have := HN.out; omega)] at hx
        rw [List.take_of_length_le (by have := HN.out; omega), List.drop_of_length_le (by have := HN.out; omega), List.append_nil] at hr ho
        have HXX := Lib.hid hx
        have HRO : Hid (OwnLs wr lo hi 41 43 (.slice (some ⟨g, 0, none⟩) j cap) (markL k db) us) := Lib.hid ⟨⟨by rw [markL_len, ← HN.out]; exact hr, fun g' hg' => by simp [Value.ownBlock] at hg'; omega⟩, ho⟩
        have HBB := Lib.hid hb
        clear hx hr ho hb
        go_wp2_with fail
        go_ret
        exact ⟨ret_int HXX.out, HRO.out, HBB.out⟩
end Go.Proofs.Ytnnkdoomjkccgaa
