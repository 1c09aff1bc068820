/- A slice of announcements as a source of cells: its parts, and a row made of them. -/
import Derived.Test.YtnnkdoomjkccgaaApp
namespace Go.Proofs.Ytnnkdoomjkccgaa
set_option linter.unusedSimpArgs false
set_option linter.unusedVariables false
open Go.RowKit

theorem cellsL_take : ∀ (db : List LsaD) (us : List Value) (k : Nat), us.length = db.length → cellsL (db.take k) (us.take k) = (cellsL db us).take (k * 3)
  | [], us, k, h => by cases us <;> simp_all [cellsL]
  | _ :: _, [], _, h => by simp at h
  | (o, s, es) :: db, u :: us, 0, h => by simp [cellsL]
  | (o, s, es) :: db, u :: us, k + 1, h => by
    have := cellsL_take db us k (by simpa using h)
    have e : (k + 1) * 3 = k * 3 + 1 + 1 + 1 := by omega
    rw [e]
    simpa [cellsL] using this
theorem cellsL_drop : ∀ (db : List LsaD) (us : List Value) (k : Nat), us.length = db.length → cellsL (db.drop k) (us.drop k) = (cellsL db us).drop (k * 3)
  | [], us, k, h => by cases us <;> simp_all [cellsL]
  | _ :: _, [], _, h => by simp at h
  | (o, s, es) :: db, u :: us, 0, h => by simp
  | (o, s, es) :: db, u :: us, k + 1, h => by
    have := cellsL_drop db us k (by simpa using h)
    have e : (k + 1) * 3 = k * 3 + 1 + 1 + 1 := by omega
    rw [e]
    simpa [cellsL] using this
theorem cellsL_append : ∀ (db db' : List LsaD) (us us' : List Value), us.length = db.length → cellsL (db ++ db') (us ++ us') = cellsL db us ++ cellsL db' us'
  | [], db', us, us', h => by cases us <;> simp_all [cellsL]
  | _ :: _, _, [], _, h => by simp at h
  | (o, s, es) :: db, db', u :: us, us', h => by simpa [cellsL] using cellsL_append db db' us us' (by simpa using h)
theorem cellsL_one : ∀ (db : List LsaD) (us : List Value), (∀ u ∈ us, u.oneCell' = true) → ∀ x ∈ cellsL db us, x.oneCell' = true
  | [], us, _, x, hx => by cases us <;> simp [cellsL] at hx
  | _ :: _, [], _, x, hx => by simp [cellsL] at hx
  | (o, s, es) :: db, u :: us, h, x, hx => by
    rcases List.mem_cons.1 hx with rfl | hx
    · rfl
    · rcases List.mem_cons.1 hx with rfl | hx
      · rfl
      · rcases List.mem_cons.1 hx with rfl | hx
        · exact h x (by simp)
        · exact cellsL_one db us (fun v hv => h v (by simp [hv])) x hx
/-- The slices of ends that lie in a slice of announcements. -/
theorem lsas_src {w : World} {v : Value} {db : List LsaD} (h : LsasAt w v db) : ∃ (A : Option Addr) (c : Nat) (us : List Value), v = .slice A db.length c ∧ db.length ≤ c ∧ c ≤ maxLen ∧ us.length = db.length ∧ SrcAt w A db.length 3 (cellsL db us) ∧
    (∀ (k : Nat) (o s : Int) (es : List (Int × Int)) (u : Value), db[k]? = some (o, s, es) → us[k]? = some u → PairsAt w u es) ∧ ∀ u ∈ us, u.oneCell' = true := by
  obtain ⟨A, c, b, off, rfl, h1, h2, h3, h4⟩ := h
  obtain ⟨us, hul, hus⟩ : ∃ us : List Value, us.length = db.length ∧ ∀ (k : Nat) (u : Value), us[k]? = some u → ∃ (o s : Int) (es : List (Int × Int)), db[k]? = some (o, s, es) ∧ w.cell? ⟨b, off + k * 3, none⟩ = some (.int .i64 o) ∧ w.cell? ⟨b, off + k * 3 + 1, none⟩ = some (.int .i64 s) ∧ w.cell? ⟨b, off + k * 3 + 2, none⟩ = some u ∧ PairsAt w u es := by
    refine ⟨(List.range db.length).map fun k => (w.cell? ⟨b, off + k * 3 + 2, none⟩).getD undef, by simp, fun k u hu => ?_⟩
    have hl : k < db.length := by have := (List.getElem?_eq_some_iff.1 hu).1; simpa using this
    obtain ⟨⟨o, s, es⟩, hd⟩ := at_lt (l := db) (n := db.length) rfl hl
    obtain ⟨u', c0, c1, c2, hp⟩ := h4 k o s es hd
    rw [List.getElem?_map, List.getElem?_range hl] at hu
    simp only [Option.map_some, c2, Option.getD_some, Option.some.injEq] at hu
    subst hu
    exact ⟨o, s, es, hd, c0, c1, c2, hp⟩
  refine ⟨A, c, us, rfl, h1, h2, hul, ⟨cellsL_len db us hul, fun hA => ?_, fun ad hA j x hx => ?_⟩, fun k o s es u hd hu => ?_, fun u hu => ?_⟩
  · rcases Nat.eq_zero_or_pos db.length with h0 | h0
    · exact h0
    · rw [h3 h0] at hA; cases hA
  · have hl : j < db.length * 3 := by rw [← cellsL_len db us hul]; exact (List.getElem?_eq_some_iff.1 hx).1
    have e := h3 (by omega)
    rw [hA] at e
    injection e with e
    subst e
    rw [addr_add]
    obtain ⟨u, hu⟩ := at_lt (l := us) (n := us.length) rfl (k := j / 3) (by omega)
    obtain ⟨o, s, es, hd, c0, c1, c2, _⟩ := hus _ u hu
    obtain ⟨d0, d1, d2⟩ := cellsL_at hd hu
    rcases (show j = j / 3 * 3 ∨ j = j / 3 * 3 + 1 ∨ j = j / 3 * 3 + 2 by omega) with hj | hj | hj
    · rw [hj, d0] at hx
      injection hx with hx
      subst hx
      rw [hj]; exact c0
    · rw [hj, d1] at hx
      injection hx with hx
      subst hx
      rw [hj, ← Nat.add_assoc]; exact c1
    · rw [hj, d2] at hx
      injection hx with hx
      subst hx
      rw [hj, ← Nat.add_assoc]; exact c2
  · obtain ⟨o', s', es', hd', _, _, _, hp⟩ := hus k u hu
    rw [hd] at hd'
    injection hd' with hd'
    injection hd' with _ e
    injection e with _ e
    rw [e]; exact hp
  · obtain ⟨k, hk⟩ := List.getElem?_of_mem hu
    obtain ⟨_, _, _, _, _, _, _, hp⟩ := hus k u hk
    obtain ⟨_, _, _, rfl⟩ := hp.form
    rfl
theorem lsas_of_row {w : World} {base : Nat} {t : TypeId} {v : Value} {db : List LsaD} {us : List Value} (h : w.ownsRow base t 3 v db.length (cellsL db us)) (hul : us.length = db.length) (hp : ∀ (k : Nat) (o s : Int) (es : List (Int × Int)) (u : Value), db[k]? = some (o, s, es) → us[k]? = some u → PairsAt w u es) : LsasAt w v db := by
  obtain ⟨_, h1⟩ := h
  rcases h1 with ⟨rfl, h0⟩ | ⟨g, cap, cur, rfl, _, hg, hn, hm, hs, ht⟩
  · refine ⟨none, 0, 0, 0, by rw [h0], by omega, by unfold maxLen; omega, fun h => by omega, fun k o s es hk => ?_⟩
    have := (List.getElem?_eq_some_iff.1 hk).1
    omega
  · refine ⟨_, cap, g, 0, rfl, hn, hm, fun _ => rfl, fun k o s es hk => ?_⟩
    have hl := (List.getElem?_eq_some_iff.1 hk).1
    obtain ⟨u, hu⟩ := at_lt (l := us) (n := us.length) rfl (k := k) (by omega)
    obtain ⟨c0, c1, c2⟩ := cellsL_at hk hu
    rw [← ht, List.getElem?_take, if_pos (by omega)] at c0 c1 c2
    refine ⟨u, ?_, ?_, ?_, hp k o s es u hk hu⟩
    · simp only [World.cell?]; rw [hg]; simpa using c0
    · simp only [World.cell?]; rw [hg]; simpa using c1
    · simp only [World.cell?]; rw [hg]; simpa using c2
end Go.Proofs.Ytnnkdoomjkccgaa
