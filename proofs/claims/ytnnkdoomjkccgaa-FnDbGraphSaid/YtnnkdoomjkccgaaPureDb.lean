/- Plain functions and lemmas on lists of announcements. No program in sight. -/
import Derived.Test.YtnnkdoomjkccgaaPure2
namespace Go.Proofs.Ytnnkdoomjkccgaa
set_option linter.unusedSimpArgs false
set_option linter.unusedVariables false

def findD (db : List LsaD) (o : Int) : Option LsaD := db.find? fun d => d.1 == o
def ascD (db : List LsaD) : Prop := ∀ (i j : Nat) (d d' : LsaD), i < j → db[i]? = some d → db[j]? = some d' → d.1 < d'.1
theorem dbOk_iff {db : List LsaD} : dbOk db = true ↔ (∀ (k : Nat) (d : LsaD), db[k]? = some d → lsaOk d.1 d.2.1 d.2.2 = true) ∧ ascD db := by
  unfold dbOk
  rw [all_iff]
  constructor
  · intro h
    have hk : ∀ (k : Nat) (d : LsaD), db[k]? = some d → lsaOk d.1 d.2.1 d.2.2 = true ∧ (0 < k → (db.getD (k - 1) (0, 0, [])).1 < d.1) := by
      intro k ⟨o, s, es⟩ hd
      have := h k (List.getElem?_eq_some_iff.1 hd).1
      rw [dbRowOk_at hd] at this
      simp only [Bool.and_eq_true, Bool.not_eq_true', Bool.or_eq_true, beq_iff_eq, decide_eq_false_iff_not] at this
      exact ⟨this.1, fun h0 => by rcases this.2 with h | h <;> simp only at * <;> omega⟩
    refine ⟨fun k d hd => (hk k d hd).1, fun i j d d' hij hi hj => ?_⟩
    have := asc_of_next (f := fun k => (db.getD k (0, 0, [])).1) (n := db.length) (fun k h0 hkl => by
      obtain ⟨d, hd⟩ := at_lt (l := db) (n := db.length) rfl hkl
      have := (hk k d hd).2 h0
      simp only [getD_of hd]
      exact this) i j hij (List.getElem?_eq_some_iff.1 hj).1
    simp only [getD_of hi, getD_of hj] at this
    exact this
  · rintro ⟨h1, h2⟩ k hk
    obtain ⟨⟨o, s, es⟩, hd⟩ := at_lt (l := db) (n := db.length) rfl hk
    rw [dbRowOk_at hd]
    have := h1 k _ hd
    simp only [Bool.and_eq_true, Bool.not_eq_true', Bool.or_eq_true, beq_iff_eq, decide_eq_false_iff_not]
    refine ⟨this, ?_⟩
    by_cases h0 : k = 0
    · exact .inl h0
    · right
      obtain ⟨d, hd'⟩ := at_lt (l := db) (n := db.length) rfl (k := k - 1) (by omega)
      rw [getD_of hd']
      have := h2 (k - 1) k d _ (by omega) hd' hd
      simp only at this
      omega
/-- The first place whose origin is not smaller, and whether the origin is there. -/
def PlaceOk (db : List LsaD) (o : Int) (i : Nat) (kn : Bool) : Prop :=
  i ≤ db.length ∧ (∀ (k : Nat) (d : LsaD), k < i → db[k]? = some d → d.1 < o) ∧ (∀ (k : Nat) (d : LsaD), i ≤ k → db[k]? = some d → o ≤ d.1) ∧ (kn = true ↔ ∃ d, db[i]? = some d ∧ d.1 = o)
theorem find_at {db : List LsaD} {o : Int} {i : Nat} {d : LsaD} (hd : db[i]? = some d) (ho : d.1 = o) (hlt : ∀ (k : Nat) (d' : LsaD), k < i → db[k]? = some d' → d'.1 ≠ o) : findD db o = some d := by
  unfold findD
  rw [List.find?_eq_some_iff_getElem]
  obtain ⟨hl, he⟩ := List.getElem?_eq_some_iff.1 hd
  refine ⟨by simpa using ho, i, hl, he, fun j hj => ?_⟩
  have := hlt j db[j] hj (List.getElem?_eq_getElem (by omega))
  simpa using this
theorem find_none {db : List LsaD} {o : Int} (h : ∀ (k : Nat) (d : LsaD), db[k]? = some d → d.1 ≠ o) : findD db o = none := by
  unfold findD
  rw [List.find?_eq_none]
  intro d hd
  obtain ⟨k, hk⟩ := List.getElem?_of_mem hd
  simpa using h k d hk
theorem place_yes {db : List LsaD} {o : Int} {i : Nat} (h : PlaceOk db o i true) : ∃ d, db[i]? = some d ∧ d.1 = o ∧ findD db o = some d := by
  obtain ⟨h1, h2, h3, h4⟩ := h
  obtain ⟨d, hd, ho⟩ := h4.1 rfl
  exact ⟨d, hd, ho, find_at hd ho fun k d' hk hd' => by have := h2 k d' hk hd'; omega⟩
theorem place_no {db : List LsaD} {o : Int} {i : Nat} (hs : ascD db) (h : PlaceOk db o i false) : findD db o = none := by
  obtain ⟨h1, h2, h3, h4⟩ := h
  refine find_none fun k d hd he => ?_
  rcases Nat.lt_or_ge k i with hk | hk
  · have := h2 k d hk hd; omega
  · by_cases hki : k = i
    · subst hki
      have := h4.2 ⟨d, hd, he⟩
      cases this
    · obtain ⟨d', hd'⟩ := at_lt (l := db) (n := db.length) rfl (k := i) (by have := (List.getElem?_eq_some_iff.1 hd).1; omega)
      have a1 := hs i k d' d (by omega) hd' hd
      have a2 := h3 i d' (Nat.le_refl _) hd'
      omega
/-- What is missing of an announcement. -/
def missB (db : List LsaD) (d : LsaD) : Bool := match findD db d.1 with | none => true | some old => decide (old.2.1 < d.2.1)
def missD (db other : List LsaD) : List Int := (other.filter (missB db)).map (·.1)
def missOf (db other : List LsaD) : List Int := if dbOk db && dbOk other then missD db other else []
theorem missD_snoc {db other : List LsaD} {k : Nat} {d : LsaD} (h : other[k]? = some d) : missD db (other.take (k + 1)) = if missB db d = true then missD db (other.take k) ++ [d.1] else missD db (other.take k) := by
  obtain ⟨hl, he⟩ := List.getElem?_eq_some_iff.1 h
  unfold missD
  rw [List.take_succ_eq_append_getElem hl, he, List.filter_append, List.map_append]
  by_cases hb : missB db d = true
  · simp [hb]
  · simp [hb]
theorem missD_len (db other : List LsaD) (k : Nat) : (missD db (other.take k)).length ≤ k := by
  unfold missD
  rw [List.length_map]
  exact Nat.le_trans (List.length_filter_le _ _) (List.length_take_le _ _)
theorem asc_ge {f : Nat → Int} {n : Nat} (h0 : ∀ k, k < n → 0 ≤ f k) (h : ∀ i j, i < j → j < n → f i < f j) : ∀ k, k < n → (k : Int) ≤ f k := by
  intro k
  induction k with
  | zero => intro hk; simpa using h0 0 hk
  | succ k ih =>
    intro hk
    have h1 := ih (by omega)
    have h2 := h k (k + 1) (by omega) hk
    omega
theorem dbOk_len {db : List LsaD} (h : dbOk db = true) : db.length ≤ 8 := by
  obtain ⟨h1, h2⟩ := dbOk_iff.1 h
  have hf : ∀ k (hk : k < db.length), inB (db.getD k (0, 0, [])).1 0 7 = true := fun k hk => by
    obtain ⟨d, hd⟩ := at_lt (l := db) (n := db.length) rfl hk
    rw [getD_of hd]
    exact (lsaOk_iff.1 (h1 k d hd)).1
  have hge := asc_ge (f := fun k => (db.getD k (0, 0, [])).1) (n := db.length) (fun k hk => (inB_iff.1 (hf k hk)).1) (fun i j hij hj => by
    obtain ⟨d, hd⟩ := at_lt (l := db) (n := db.length) rfl hj
    obtain ⟨d', hd'⟩ := at_lt (l := db) (n := db.length) rfl (k := i) (by omega)
    simp only [getD_of hd, getD_of hd']
    exact h2 i j d' d hij hd' hd)
  rcases Nat.eq_zero_or_pos db.length with h0 | h0
  · omega
  · have a := hge (db.length - 1) (by omega)
    have b := (inB_iff.1 (hf (db.length - 1) (by omega))).2
    omega
theorem lsaOk_len {o s : Int} {es : List (Int × Int)} (h : lsaOk o s es = true) : es.length ≤ 8 := by
  obtain ⟨_, _, h3, h4⟩ := lsaOk_iff.1 h
  have hf : ∀ k (hk : k < es.length), inB (es.getD k (0, 0)).1 0 7 = true := fun k hk => by
    obtain ⟨⟨x, y⟩, hd⟩ := at_lt (l := es) (n := es.length) rfl hk
    rw [getD_pair hd]
    exact (h3 k x y hd).1
  have hge := asc_ge (f := fun k => (es.getD k (0, 0)).1) (n := es.length) (fun k hk => (inB_iff.1 (hf k hk)).1) (fun i j hij hj => by
    obtain ⟨⟨x, y⟩, hd⟩ := at_lt (l := es) (n := es.length) rfl hj
    obtain ⟨⟨x', y'⟩, hd'⟩ := at_lt (l := es) (n := es.length) rfl (k := i) (by omega)
    simp only [getD_pair hd, getD_pair hd']
    exact h4 i j x' y' x y hij hd' hd)
  rcases Nat.eq_zero_or_pos es.length with h0 | h0
  · omega
  · have a := hge (es.length - 1) (by omega)
    have b := (inB_iff.1 (hf (es.length - 1) (by omega))).2
    omega
theorem missOf_ok {db other : List LsaD} (h : dbOk db = true) (h2 : dbOk other = true) : missOf db other = missD db other := by simp [missOf, h, h2]
theorem missOf_bad {db other : List LsaD} (h : (dbOk db && dbOk other) = false) : missOf db other = [] := by simp [missOf, h]
end Go.Proofs.Ytnnkdoomjkccgaa
