/- The announced cost found by a scan over all announcements, in plain terms. No program in sight. -/
import Derived.Test.YtnnkdoomjkccgaaPureA
namespace Go.Proofs.Ytnnkdoomjkccgaa
set_option linter.unusedSimpArgs false
set_option linter.unusedVariables false

def stepE (a b o : Int) (x : Int) (e : Int × Int) : Int := if o = a ∧ e.1 = b then e.2 else x
def scanE (a b o : Int) (es : List (Int × Int)) (x : Int) : Int := es.foldl (stepE a b o) x
def scanD (a b : Int) (db : List LsaD) (x : Int) : Int := db.foldl (fun x d => scanE a b d.1 d.2.2 x) x
theorem scanE_succ {a b o x : Int} {es : List (Int × Int)} {k : Nat} {e : Int × Int} (h : es[k]? = some e) : scanE a b o (es.take (k + 1)) x = stepE a b o (scanE a b o (es.take k) x) e := by
  obtain ⟨hl, he⟩ := List.getElem?_eq_some_iff.1 h
  unfold scanE
  rw [List.take_succ_eq_append_getElem hl, he, List.foldl_append]
  rfl
theorem scanD_succ {a b x : Int} {db : List LsaD} {i : Nat} {o s : Int} {es : List (Int × Int)} (h : db[i]? = some (o, s, es)) : scanD a b (db.take (i + 1)) x = scanE a b o es (scanD a b (db.take i) x) := by
  obtain ⟨hl, he⟩ := List.getElem?_eq_some_iff.1 h
  unfold scanD
  rw [List.take_succ_eq_append_getElem hl, he, List.foldl_append]
  rfl
theorem scanE_ne {a b o : Int} (h : o ≠ a) : ∀ (es : List (Int × Int)) (x : Int), scanE a b o es x = x
  | [], _ => rfl
  | e :: es, x => by
    have ih := scanE_ne (b := b) h es x
    unfold scanE at ih ⊢
    rw [List.foldl_cons, show stepE a b o x e = x from if_neg fun hh => h hh.1]
    exact ih
theorem scanE_no {a b o : Int} : ∀ (es : List (Int × Int)) (x : Int), (∀ e ∈ es, e.1 ≠ b) → scanE a b o es x = x
  | [], _, _ => rfl
  | e :: es, x, h => by
    have ih := scanE_no (a := a) (b := b) (o := o) es x fun e' he => h e' (by simp [he])
    unfold scanE at ih ⊢
    rw [List.foldl_cons, show stepE a b o x e = x from if_neg fun hh => h e (by simp) hh.2]
    exact ih
theorem scanE_eq {a b : Int} : ∀ (es : List (Int × Int)), es.Pairwise (fun p q => p.1 < q.1) → scanE a b a es 0 = endC es b
  | [], _ => rfl
  | e :: es, h => by
    obtain ⟨h1, h2⟩ := List.pairwise_cons.1 h
    have ih := scanE_eq (a := a) (b := b) es h2
    by_cases hb : e.1 = b
    · have hn := scanE_no (a := a) (b := b) (o := a) es e.2 fun e' he => by have := h1 e' he; omega
      unfold scanE at hn ⊢
      rw [List.foldl_cons, show stepE a b a 0 e = e.2 from if_pos ⟨rfl, hb⟩, hn]
      unfold endC
      rw [List.find?_cons_of_pos (by simpa using hb)]
    · unfold scanE at ih ⊢
      rw [List.foldl_cons, show stepE a b a 0 e = 0 from if_neg fun hh => hb hh.2, ih]
      unfold endC
      rw [List.find?_cons_of_neg (by simpa using hb)]
theorem scanD_no {a b : Int} : ∀ (db : List LsaD) (x : Int), (∀ d ∈ db, d.1 ≠ a) → scanD a b db x = x
  | [], _, _ => rfl
  | d :: db, x, h => by
    have ih := scanD_no (a := a) (b := b) db x fun d' hd => h d' (by simp [hd])
    unfold scanD at ih ⊢
    rw [List.foldl_cons, scanE_ne (h d (by simp))]
    exact ih
theorem scanD_pw {a b : Int} : ∀ (db : List LsaD), db.Pairwise (fun p q => p.1 < q.1) → (∀ d ∈ db, d.2.2.Pairwise (fun p q => p.1 < q.1)) → scanD a b db 0 = annD db a b
  | [], _, _ => rfl
  | d :: db, h, he => by
    obtain ⟨h1, h2⟩ := List.pairwise_cons.1 h
    have ih := scanD_pw (a := a) (b := b) db h2 fun d' hd => he d' (by simp [hd])
    by_cases ha : d.1 = a
    · have hn := scanD_no (a := a) (b := b) db (endC d.2.2 b) fun d' hd => by have := h1 d' hd; omega
      unfold scanD at hn ⊢
      rw [List.foldl_cons, ha, scanE_eq _ (he d (by simp)), hn]
      refine (annD_yes ?_).symm
      unfold findD
      rw [List.find?_cons_of_pos (by simpa using ha)]
    · unfold scanD at ih ⊢
      rw [List.foldl_cons, scanE_ne ha, ih]
      unfold annD findD
      rw [List.find?_cons_of_neg (by simpa using ha)]
theorem scanD_eq {db : List LsaD} (h : dbOk db = true) (a b : Int) : scanD a b db 0 = annD db a b := by
  refine scanD_pw db (ascD_pairwise.1 (dbOk_iff.1 h).2) fun d hd => ?_
  have := (lsaOk_iff.1 (ok_mem h hd)).2.2.2
  rw [List.pairwise_iff_getElem]
  intro i j hi hj hij
  exact this i j (d.2.2[i]).1 (d.2.2[i]).2 (d.2.2[j]).1 (d.2.2[j]).2 hij (List.getElem?_eq_getElem hi) (List.getElem?_eq_getElem hj)
end Go.Proofs.Ytnnkdoomjkccgaa
