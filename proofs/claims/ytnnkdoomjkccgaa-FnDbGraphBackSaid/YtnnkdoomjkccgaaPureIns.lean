/- Plain: storing an announcement at its place. No program in sight. -/
import Derived.Test.YtnnkdoomjkccgaaPurePut
import Derived.Test.YtnnkdoomjkccgaaOwn2
namespace Go.Proofs.Ytnnkdoomjkccgaa
set_option linter.unusedSimpArgs false
set_option linter.unusedVariables false
open Go.RowKit

theorem filter_gt_drop {db : List LsaD} {o : Int} {i : Nat} (h1 : ∀ (k : Nat) (d : LsaD), k < i → db[k]? = some d → ¬ o < d.1) (h2 : ∀ (k : Nat) (d : LsaD), i ≤ k → db[k]? = some d → o < d.1) : db.filter (fun d => decide (o < d.1)) = db.drop i := by
  have e : db = db.take i ++ db.drop i := (List.take_append_drop i db).symm
  have ha : (db.take i).filter (fun d => decide (o < d.1)) = [] := by
    rw [List.filter_eq_nil_iff]
    intro d hd
    obtain ⟨k, hk⟩ := List.getElem?_of_mem hd
    rw [List.getElem?_take] at hk
    split at hk
    · rename_i hki; simpa using h1 k d hki hk
    · cases hk
  have hb : (db.drop i).filter (fun d => decide (o < d.1)) = db.drop i := by
    rw [List.filter_eq_self]
    intro d hd
    obtain ⟨k, hk⟩ := List.getElem?_of_mem hd
    rw [List.getElem?_drop] at hk
    simpa using h2 (i + k) d (by omega) hk
  calc db.filter (fun d => decide (o < d.1)) = (db.take i ++ db.drop i).filter (fun d => decide (o < d.1)) := by rw [← e]
    _ = db.drop i := by rw [List.filter_append, ha, hb, List.nil_append]
theorem insD_yes {db : List LsaD} {l : LsaD} {i : Nat} (hs : ascD db) (h : PlaceOk db l.1 i true) : insD db l = db.set i l := by
  obtain ⟨h1, h2, h3, h4⟩ := h
  obtain ⟨d, hd, ho⟩ := h4.1 rfl
  have hl := (List.getElem?_eq_some_iff.1 hd).1
  unfold insD
  rw [filter_lt_take h2 (fun k d' hk hd' => by have := h3 k d' hk hd'; omega), filter_gt_drop (i := i + 1) (fun k d' hk hd' => by
    rcases Nat.lt_or_ge k i with hki | hki
    · have := h2 k d' hki hd'; omega
    · obtain rfl : k = i := by omega
      rw [hd] at hd'; injection hd' with hd'; subst hd'; omega) (fun k d' hk hd' => by have := hs i k d d' (by omega) hd hd'; omega), List.set_eq_take_append_cons_drop, if_pos hl]
theorem insD_no {db : List LsaD} {l : LsaD} {i : Nat} (hs : ascD db) (h : PlaceOk db l.1 i false) : insD db l = db.take i ++ l :: db.drop i := by
  obtain ⟨h1, h2, h3, h4⟩ := h
  unfold insD
  rw [filter_lt_take h2 (fun k d' hk hd' => by have := h3 k d' hk hd'; omega), filter_gt_drop (i := i) (fun k d' hk hd' => by have := h2 k d' hk hd'; omega) (fun k d' hk hd' => by
    have a := h3 k d' hk hd'
    by_cases hki : k = i
    · subst hki
      by_cases he : d'.1 = l.1
      · have := h4.2 ⟨d', hd', he⟩; cases this
      · omega
    · obtain ⟨d, hd⟩ := at_lt (l := db) (n := db.length) rfl (k := i) (by have := (List.getElem?_eq_some_iff.1 hd').1; omega)
      have b := h3 i d (Nat.le_refl _) hd
      have := hs i k d d' (by omega) hd hd'
      omega)]
theorem ins_at {α : Type} {l : List α} {i : Nat} (hi : i ≤ l.length) (x : α) (k : Nat) : (l.take i ++ x :: l.drop i)[k]? = if k < i then l[k]? else if k = i then some x else l[k - 1]? := by
  have hl : (l.take i).length = i := by rw [List.length_take]; omega
  rcases Nat.lt_or_ge k i with h | h
  · rw [List.getElem?_append_left (by omega), List.getElem?_take]
    simp [h]
  · rw [List.getElem?_append_right (by omega), hl, if_neg (by omega)]
    by_cases hk : k = i
    · subst hk; simp
    · obtain ⟨m, hm⟩ : ∃ m, k - i = m + 1 := ⟨k - i - 1, by omega⟩
      rw [hm, if_neg hk, List.getElem?_cons_succ, List.getElem?_drop]
      congr 1
      omega
theorem cellsL_ins : ∀ (db : List LsaD) (us : List Value) (i : Nat) (o s : Int) (es : List (Int × Int)) (u : Value), us.length = db.length → i ≤ db.length →
    cellsL (db.take i ++ (o, s, es) :: db.drop i) (us.take i ++ u :: us.drop i) = (cellsL db us).take (i * 3) ++ [.int .i64 o, .int .i64 s, u] ++ (cellsL db us).drop (i * 3)
  | db, us, 0, o, s, es, u, _, _ => by simp [cellsL]
  | [], _, i + 1, _, _, _, _, _, h => by simp at h
  | _ :: _, [], i + 1, _, _, _, _, h, _ => by simp at h
  | (o', s', es') :: db, u' :: us, i + 1, o, s, es, u, h, hi => by
    have := cellsL_ins db us i o s es u (by simpa using h) (by simpa using hi)
    have e0 : (i + 1) * 3 = i * 3 + 1 + 1 + 1 := by omega
    rw [e0]
    simpa [cellsL] using this
theorem cellsL_upd : ∀ (db : List LsaD) (us : List Value) (i : Nat) (o s : Int) (es : List (Int × Int)) (u : Value), us.length = db.length → i < db.length →
    cellsL (db.set i (o, s, es)) (us.set i u) = (((cellsL db us).set (i * 3) (.int .i64 o)).set (i * 3 + 1) (.int .i64 s)).set (i * 3 + 2) u
  | [], _, _, _, _, _, _, _, h => by simp at h
  | _ :: _, [], _, _, _, _, _, h, _ => by simp at h
  | (o', s', es') :: db, u' :: us, 0, o, s, es, u, _, _ => rfl
  | (o', s', es') :: db, u' :: us, i + 1, o, s, es, u, h, hi => by
    have := cellsL_upd db us i o s es u (by simpa using h) (by simpa using hi)
    have e0 : (i + 1) * 3 = (i * 3) + 1 + 1 + 1 := by omega
    rw [e0]
    simpa [cellsL] using this
/-- One announcement new at place i, its ends in a block of its own behind; the others in their order. -/
theorem EndsOwn.with_ {w : World} {lo hi hi' l : Nat} {tE : TypeId} {db db' : List LsaD} {us us' : List Value} {i : Nat} {o s : Int} {es : List (Int × Int)} {u : Value} (h : EndsOwn w lo hi tE db us) (hu : OwnR w l hi' tE 2 u es.length (cells2 es)) (hl : hi ≤ l) (hh : hi ≤ hi') (hlo : lo ≤ l)
    (f : Nat → Nat) (hlen : us'.length = db'.length) (hf : ∀ a b, a < b → a ≠ i → b ≠ i → f a < f b) (hd : ∀ k, k ≠ i → db'[k]? = db[f k]? ∧ us'[k]? = us[f k]?) (hdi : db'[i]? = some (o, s, es)) (hui : us'[i]? = some u) : EndsOwn w lo hi' tE db' us' := by
  refine ⟨hlen, fun k o' s' es' u' hk hu' => ?_, fun a b x x' hab hx hx' g hg hg' => ?_⟩
  · by_cases hki : k = i
    · subst hki
      rw [hdi] at hk
      rw [hui] at hu'
      simp at hk hu'
      obtain ⟨rfl, rfl, rfl⟩ := hk
      subst hu'
      exact hu.mono hlo (Nat.le_refl _)
    · rw [(hd k hki).1] at hk
      rw [(hd k hki).2] at hu'
      exact (h.ends _ o' s' es' u' hk hu').mono (Nat.le_refl _) hh
  · have key : ∀ c y, c ≠ i → us'[c]? = some y → y.ownBlock = some g → g < hi := fun c y hc hy hyg => by
      rw [(hd c hc).2] at hy
      obtain ⟨⟨o', s', es'⟩, hd'⟩ := at_lt (l := db) (n := db.length) rfl (k := f c) (by have := h.len; have := (List.getElem?_eq_some_iff.1 hy).1; omega)
      exact (h.ends _ o' s' es' y hd' hy).2 g hyg
    by_cases ha : a = i
    · subst ha
      rw [hui] at hx
      injection hx with hx
      subst hx
      have := key b x' (by omega) hx' hg'
      have := (hu.lt g hg).1
      omega
    · by_cases hb : b = i
      · subst hb
        rw [hui] at hx'
        injection hx' with hx'
        subst hx'
        have := key a x ha hx hg
        have := (hu.lt g hg').1
        omega
      · rw [(hd a ha).2] at hx
        rw [(hd b hb).2] at hx'
        exact h.apart _ _ x x' (hf a b hab ha hb) hx hx' g hg hg'
end Go.Proofs.Ytnnkdoomjkccgaa
