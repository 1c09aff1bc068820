/- Plain: what storing and merging do to each origin. No program in sight. -/
import Derived.Test.YtnnkdoomjkccgaaPurePut
import Derived.Test.YtnnkdoomjkccgaaSeq
namespace Go.Proofs.Ytnnkdoomjkccgaa
set_option linter.unusedSimpArgs false
set_option linter.unusedVariables false

theorem find_unique {db : List LsaD} (hs : ascD db) {d : LsaD} (h : d ∈ db) : findD db d.1 = some d := by
  obtain ⟨k, hk⟩ := List.getElem?_of_mem h
  exact find_at hk rfl fun j d' hj hd' => by have := hs j k d' d hj hd' hk; omega
theorem find_some_iff {db : List LsaD} (hs : ascD db) {o : Int} {d : LsaD} : findD db o = some d ↔ d ∈ db ∧ d.1 = o :=
  ⟨findD_mem, fun ⟨h, ho⟩ => ho ▸ find_unique hs h⟩
theorem find_none_iff {db : List LsaD} {o : Int} : findD db o = none ↔ ∀ d ∈ db, d.1 ≠ o := by
  unfold findD
  rw [List.find?_eq_none]
  simp
theorem ascD_pairwise {db : List LsaD} : ascD db ↔ db.Pairwise (fun a b => a.1 < b.1) := by
  rw [List.pairwise_iff_getElem]
  constructor
  · intro hs i j hi hj hij
    exact hs i j _ _ hij (List.getElem?_eq_getElem hi) (List.getElem?_eq_getElem hj)
  · intro h i j d d' hij hd hd'
    obtain ⟨a, rfl⟩ := List.getElem?_eq_some_iff.1 hd
    obtain ⟨b, rfl⟩ := List.getElem?_eq_some_iff.1 hd'
    exact h i j a b hij
theorem insD_mem {db : List LsaD} {l d : LsaD} : d ∈ insD db l ↔ d = l ∨ (d ∈ db ∧ d.1 ≠ l.1) := by
  unfold insD
  simp only [List.mem_append, List.mem_cons, List.mem_filter, decide_eq_true_iff]
  constructor
  · rintro (⟨h, h1⟩ | rfl | ⟨h, h1⟩)
    · exact .inr ⟨h, by omega⟩
    · exact .inl rfl
    · exact .inr ⟨h, by omega⟩
  · rintro (rfl | ⟨h, h1⟩)
    · exact .inr (.inl rfl)
    · rcases Int.lt_or_gt_of_ne h1 with h2 | h2
      · exact .inl ⟨h, h2⟩
      · exact .inr (.inr ⟨h, h2⟩)
theorem insD_asc {db : List LsaD} {l : LsaD} (hs : ascD db) : ascD (insD db l) := by
  rw [ascD_pairwise] at hs ⊢
  unfold insD
  rw [List.pairwise_append]
  refine ⟨hs.filter _, ?_, ?_⟩
  · rw [List.pairwise_cons]
    exact ⟨fun d hd => by simpa using (List.mem_filter.1 hd).2, hs.filter _⟩
  · intro a ha b hb
    have h1 : a.1 < l.1 := by simpa using (List.mem_filter.1 ha).2
    rcases List.mem_cons.1 hb with rfl | hb
    · exact h1
    · have h2 : l.1 < b.1 := by simpa using (List.mem_filter.1 hb).2
      exact Int.lt_trans h1 h2
theorem insD_find {db : List LsaD} {l : LsaD} (hs : ascD db) (o : Int) : findD (insD db l) o = if o = l.1 then some l else findD db o := by
  by_cases ho : o = l.1
  · rw [if_pos ho, find_some_iff (insD_asc hs)]
    exact ⟨insD_mem.2 (.inl rfl), ho.symm⟩
  · rw [if_neg ho]
    rcases hf : findD db o with _ | d
    · rw [find_none_iff] at hf ⊢
      intro d hd
      rcases insD_mem.1 hd with rfl | ⟨h, _⟩
      · exact fun e => ho e.symm
      · exact hf d h
    · obtain ⟨h1, h2⟩ := findD_mem hf
      rw [find_some_iff (insD_asc hs)]
      exact ⟨insD_mem.2 (.inr ⟨h1, by omega⟩), h2⟩
/-- Storing, origin by origin. -/
theorem putD_find {db : List LsaD} {l : LsaD} (hs : ascD db) (hl : 1 ≤ l.2.1) (o : Int) : findD (putD db l).1 o = if o = l.1 ∧ seqB db l.1 < l.2.1 then some l else findD db o := by
  rcases hf : findD db l.1 with _ | old
  · have : seqB db l.1 < l.2.1 := by rw [seqB_no hf]; omega
    rw [putD_new hf, insD_find hs]
    by_cases ho : o = l.1 <;> simp [ho, this]
  · rcases Int.lt_trichotomy old.2.1 l.2.1 with hc | hc | hc
    · have : seqB db l.1 < l.2.1 := by rw [seqB_yes hf]; exact hc
      rw [putD_newer hf hc, insD_find hs]
      by_cases ho : o = l.1 <;> simp [ho, this]
    · have : ¬ seqB db l.1 < l.2.1 := by rw [seqB_yes hf]; omega
      rw [putD_same hf hc]
      simp [this]
    · have : ¬ seqB db l.1 < l.2.1 := by rw [seqB_yes hf]; omega
      rw [putD_older hf hc]
      simp [this]
theorem seqB_of {db db' : List LsaD} {o : Int} (h : findD db o = findD db' o) : seqB db o = seqB db' o := by unfold seqB; rw [h]
theorem putD_seq {db : List LsaD} {l : LsaD} (hs : ascD db) (hl : 1 ≤ l.2.1) (o : Int) : seqB (putD db l).1 o = if o = l.1 then max (seqB db o) l.2.1 else seqB db o := by
  have h := putD_find hs hl o
  by_cases ho : o = l.1
  · subst ho
    by_cases hc : seqB db l.1 < l.2.1
    · rw [if_pos ⟨rfl, hc⟩] at h
      rw [seqB_yes h, if_pos rfl]
      omega
    · rw [if_neg (fun e => hc e.2)] at h
      rw [seqB_of h, if_pos rfl]
      omega
  · rw [if_neg (fun e => ho e.1)] at h
    rw [seqB_of h, if_neg ho]
theorem putD_code {db : List LsaD} {l : LsaD} (hl : 1 ≤ l.2.1) : (putD db l).2 = if seqB db l.1 < l.2.1 then 0 else if seqB db l.1 = l.2.1 then 1 else 2 := by
  rcases hf : findD db l.1 with _ | old
  · rw [putD_new hf, seqB_no hf, if_pos (by omega)]
  · rw [seqB_yes hf]
    rcases Int.lt_trichotomy old.2.1 l.2.1 with hc | hc | hc
    · rw [putD_newer hf hc, if_pos hc]
    · rw [putD_same hf hc, if_neg (by omega), if_pos hc]
    · rw [putD_older hf hc, if_neg (by omega), if_neg (by omega)]
/-- What is not newer changes nothing. -/
theorem putD_keeps {db : List LsaD} {l : LsaD} (hl : 1 ≤ l.2.1) (h : l.2.1 ≤ seqB db l.1) : (putD db l).1 = db := by
  rcases hf : findD db l.1 with _ | old
  · rw [seqB_no hf] at h; omega
  · rw [seqB_yes hf] at h
    rcases Int.lt_trichotomy old.2.1 l.2.1 with hc | hc | hc
    · omega
    · rw [putD_same hf hc]
    · rw [putD_older hf hc]
theorem putD_mem {db : List LsaD} {l d : LsaD} (h : d ∈ (putD db l).1) : d = l ∨ d ∈ db := by
  rcases hf : findD db l.1 with _ | old
  · rw [putD_new hf] at h
    rcases insD_mem.1 h with h | h
    · exact .inl h
    · exact .inr h.1
  · rcases Int.lt_trichotomy old.2.1 l.2.1 with hc | hc | hc
    · rw [putD_newer hf hc] at h
      rcases insD_mem.1 h with h | h
      · exact .inl h
      · exact .inr h.1
    · rw [putD_same hf hc] at h; exact .inr h
    · rw [putD_older hf hc] at h; exact .inr h
theorem putD_asc {db : List LsaD} {l : LsaD} (hs : ascD db) : ascD (putD db l).1 := by
  rcases hf : findD db l.1 with _ | old
  · rw [putD_new hf]; exact insD_asc hs
  · rcases Int.lt_trichotomy old.2.1 l.2.1 with hc | hc | hc
    · rw [putD_newer hf hc]; exact insD_asc hs
    · rw [putD_same hf hc]; exact hs
    · rw [putD_older hf hc]; exact hs
theorem ok_mem {db : List LsaD} (h : dbOk db = true) {d : LsaD} (hd : d ∈ db) : lsaOk d.1 d.2.1 d.2.2 = true := by
  obtain ⟨i, hi⟩ := List.getElem?_of_mem hd
  exact (dbOk_iff.1 h).1 i d hi
theorem putD_ok {db : List LsaD} {l : LsaD} (h : dbOk db = true) (hl : lsaOk l.1 l.2.1 l.2.2 = true) : dbOk (putD db l).1 = true := by
  rw [dbOk_iff]
  refine ⟨fun k d hd => ?_, putD_asc (dbOk_iff.1 h).2⟩
  rcases putD_mem (List.mem_of_getElem? hd) with rfl | hm
  · exact hl
  · exact ok_mem h hm
theorem lsa_seq {l : LsaD} (hl : lsaOk l.1 l.2.1 l.2.2 = true) : 1 ≤ l.2.1 := (inB_iff.1 (lsaOk_iff.1 hl).2.1).1
/-- Lists in order that say the same of every origin are one. -/
theorem asc_ext {a b : List LsaD} (ha : ascD a) (hb : ascD b) (h : ∀ o, findD a o = findD b o) : a = b := by
  have hm : ∀ d, d ∈ a ↔ d ∈ b := fun d => by
    have h1 := find_some_iff ha (o := d.1) (d := d)
    have h2 := find_some_iff hb (o := d.1) (d := d)
    rw [h d.1] at h1
    constructor
    · intro hd; exact (h2.1 (h1.2 ⟨hd, rfl⟩)).1
    · intro hd; exact (h1.1 (h2.2 ⟨hd, rfl⟩)).1
  rw [ascD_pairwise] at ha hb
  clear h
  induction a generalizing b with
  | nil =>
    cases b with
    | nil => rfl
    | cons y b => exact absurd ((hm y).2 (by simp)) (by simp)
  | cons x a ih =>
    cases b with
    | nil => exact absurd ((hm x).1 (by simp)) (by simp)
    | cons y b =>
      rw [List.pairwise_cons] at ha hb
      have hxy : x = y := by
        rcases List.mem_cons.1 ((hm x).1 (by simp)) with h1 | h1
        · exact h1
        · rcases List.mem_cons.1 ((hm y).2 (by simp)) with h2 | h2
          · exact h2.symm
          · have := hb.1 x h1; have := ha.1 y h2; omega
      subst hxy
      congr 1
      refine ih ha.2 hb.2 fun d => ?_
      constructor
      · intro hd
        rcases List.mem_cons.1 ((hm d).1 (List.mem_cons_of_mem _ hd)) with h1 | h1
        · subst h1; have := ha.1 d hd; omega
        · exact h1
      · intro hd
        rcases List.mem_cons.1 ((hm d).2 (List.mem_cons_of_mem _ hd)) with h1 | h1
        · subst h1; have := hb.1 d hd; omega
        · exact h1
/-- Two announcements stored in either order, unless they differ and bear one origin and one number. -/
theorem putD_order {db : List LsaD} {l u : LsaD} (h : ascD db) (hl : 1 ≤ l.2.1) (hu : 1 ≤ u.2.1) (hne : ¬ (u.1 = l.1 ∧ u.2.1 = l.2.1)) : (putD (putD db l).1 u).1 = (putD (putD db u).1 l).1 := by
  refine asc_ext (putD_asc (putD_asc h)) (putD_asc (putD_asc h)) fun o => ?_
  rw [putD_find (putD_asc h) hu, putD_find (putD_asc h) hl, putD_find h hl, putD_find h hu, putD_seq h hl, putD_seq h hu]
  by_cases h1 : u.1 = l.1
  · have h2 : u.2.1 ≠ l.2.1 := fun e => hne ⟨h1, e⟩
    rw [h1]
    simp only [if_true]
    by_cases ho : o = l.1
    · simp only [ho, true_and]
      repeat' split
      all_goals first | rfl | omega
    · simp [ho]
  · have h1' : ¬ l.1 = u.1 := fun e => h1 e.symm
    simp only [if_neg h1, if_neg h1']
    by_cases ho : o = l.1
    · subst ho
      simp [h1']
    · simp [ho]

/-- Merging. -/
def mergeD (db other : List LsaD) : List LsaD := other.foldl (fun acc l => (putD acc l).1) db
theorem mergeD_snoc (db other : List LsaD) (l : LsaD) : mergeD db (other ++ [l]) = (putD (mergeD db other) l).1 := by simp [mergeD]
def mergeOf (db other : List LsaD) : List LsaD × Bool := if dbOk db && dbOk other then (mergeD db other, true) else ([], false)
theorem mergeD_ok {db other : List LsaD} (h : dbOk db = true) (ho : ∀ d ∈ other, lsaOk d.1 d.2.1 d.2.2 = true) : dbOk (mergeD db other) = true := by
  unfold mergeD
  induction other generalizing db with
  | nil => exact h
  | cons l other ih => exact ih (putD_ok h (ho l (by simp))) fun d hd => ho d (by simp [hd])
theorem mergeD_seq {db other : List LsaD} (h : dbOk db = true) (h2 : dbOk other = true) (o : Int) : seqB (mergeD db other) o = max (seqB db o) (seqB other o) := by
  have key : ∀ (other db : List LsaD), dbOk db = true → ascD other → (∀ d ∈ other, lsaOk d.1 d.2.1 d.2.2 = true) → seqB (mergeD db other) o = max (seqB db o) (seqB other o) := by
    intro other
    induction other with
    | nil =>
      intro db hd _ _
      have h0 : 0 ≤ seqB db o := by
        rcases hf : findD db o with _ | d
        · rw [seqB_no hf]; exact Int.le_refl _
        · rw [seqB_yes hf]; have := ok_seq hd (findD_mem hf).1; omega
      have e : seqB ([] : List LsaD) o = 0 := rfl
      show seqB db o = _
      rw [e]
      omega
    | cons l other ih =>
      intro db hd hs hv
      have hl := lsa_seq (hv l (by simp))
      have hs' : ascD other := by rw [ascD_pairwise] at hs ⊢; exact (List.pairwise_cons.1 hs).2
      have := ih (putD db l).1 (putD_ok hd (hv l (by simp))) hs' fun d hd => hv d (by simp [hd])
      show seqB (mergeD (putD db l).1 other) o = _
      rw [this, putD_seq (dbOk_iff.1 hd).2 hl]
      by_cases ho : o = l.1
      · subst ho
        have e1 : seqB (l :: other) l.1 = l.2.1 := seqB_yes (find_unique hs (by simp))
        have e2 : seqB other l.1 = 0 := seqB_no (find_none_iff.2 fun d hd => by
          rw [ascD_pairwise, List.pairwise_cons] at hs
          have := hs.1 d hd
          omega)
        rw [if_pos rfl, e1, e2]
        omega
      · have e1 : seqB (l :: other) o = seqB other o := by
          apply seqB_of
          unfold findD
          rw [List.find?_cons_of_neg (by simpa using fun e => ho e.symm)]
        rw [if_neg ho, e1]
  exact key other db h (dbOk_iff.1 h2).2 fun d hd => ok_mem h2 hd
/-- Merging what is not newer changes nothing. -/
theorem mergeD_keeps {db other : List LsaD} (hv : ∀ d ∈ other, 1 ≤ d.2.1 ∧ d.2.1 ≤ seqB db d.1) : mergeD db other = db := by
  unfold mergeD
  induction other with
  | nil => rfl
  | cons l other ih =>
    have := hv l (by simp)
    rw [List.foldl_cons, putD_keeps this.1 this.2]
    exact ih fun d hd => hv d (by simp [hd])
theorem seq_mem {db : List LsaD} (hs : ascD db) {d : LsaD} (h : d ∈ db) : seqB db d.1 = d.2.1 := seqB_yes (find_unique hs h)
theorem merge_self {db : List LsaD} (h : dbOk db = true) : mergeD db db = db :=
  mergeD_keeps fun d hd => ⟨ok_seq h hd, by rw [seq_mem (dbOk_iff.1 h).2 hd]; exact Int.le_refl _⟩
theorem merge_again {db other : List LsaD} (h : dbOk db = true) (h2 : dbOk other = true) : mergeD (mergeD db other) other = mergeD db other :=
  mergeD_keeps fun d hd => ⟨ok_seq h2 hd, by rw [mergeD_seq h h2, seq_mem (dbOk_iff.1 h2).2 hd]; omega⟩
/-- Nothing is missing where every number is at least as great. -/
theorem miss_none {db other : List LsaD} (h2 : dbOk other = true) (h : ∀ o, seqB other o ≤ seqB db o) : missD db other = [] := by
  unfold missD
  have : other.filter (missB db) = [] := by
    rw [List.filter_eq_nil_iff]
    intro d hd
    have h1 := h d.1
    rw [seq_mem (dbOk_iff.1 h2).2 hd] at h1
    have h3 := ok_seq h2 hd
    unfold missB
    rcases hf : findD db d.1 with _ | old
    · rw [seqB_no hf] at h1; omega
    · rw [seqB_yes hf] at h1
      simp
      omega
  rw [this]; rfl
/-- Lists that are valid and have the same numbers have the same origins. -/
theorem same_len {a b : List LsaD} (ha : dbOk a = true) (hb : dbOk b = true) (h : ∀ o, seqB a o = seqB b o) : a.length = b.length := by
  have key : ∀ (a b : List LsaD), a.Pairwise (fun x y => x.1 < y.1) → b.Pairwise (fun x y => x.1 < y.1) → (∀ o, (∃ d ∈ a, d.1 = o) ↔ (∃ d ∈ b, d.1 = o)) → a.length = b.length := by
    intro a
    induction a with
    | nil =>
      intro b _ _ h
      cases b with
      | nil => rfl
      | cons y b => obtain ⟨d, hd, _⟩ := (h y.1).2 ⟨y, by simp, rfl⟩; simp at hd
    | cons x a ih =>
      intro b ha hb h
      cases b with
      | nil => obtain ⟨d, hd, _⟩ := (h x.1).1 ⟨x, by simp, rfl⟩; simp at hd
      | cons y b =>
        rw [List.pairwise_cons] at ha hb
        have hxy : x.1 = y.1 := by
          obtain ⟨d, hd, he⟩ := (h x.1).1 ⟨x, by simp, rfl⟩
          obtain ⟨d', hd', he'⟩ := (h y.1).2 ⟨y, by simp, rfl⟩
          rcases List.mem_cons.1 hd with rfl | hd
          · exact he.symm
          · rcases List.mem_cons.1 hd' with rfl | hd'
            · exact he'
            · have := hb.1 d hd; have := ha.1 d' hd'; omega
        rw [List.length_cons, List.length_cons]
        congr 1
        refine ih b ha.2 hb.2 fun o => ?_
        constructor
        · rintro ⟨d, hd, he⟩
          obtain ⟨d', hd', he'⟩ := (h o).1 ⟨d, by simp [hd], he⟩
          rcases List.mem_cons.1 hd' with rfl | hd'
          · have := ha.1 d hd; omega
          · exact ⟨d', hd', he'⟩
        · rintro ⟨d, hd, he⟩
          obtain ⟨d', hd', he'⟩ := (h o).2 ⟨d, by simp [hd], he⟩
          rcases List.mem_cons.1 hd' with rfl | hd'
          · have := hb.1 d hd; omega
          · exact ⟨d', hd', he'⟩
  have pos : ∀ {l : List LsaD}, dbOk l = true → ∀ o, (∃ d ∈ l, d.1 = o) ↔ 1 ≤ seqB l o := by
    intro l hl o
    constructor
    · rintro ⟨d, hd, rfl⟩
      rw [seq_mem (dbOk_iff.1 hl).2 hd]
      exact ok_seq hl hd
    · intro h1
      rcases hf : findD l o with _ | d
      · rw [seqB_no hf] at h1; omega
      · exact ⟨d, (findD_mem hf).1, (findD_mem hf).2⟩
  refine key a b (ascD_pairwise.1 (dbOk_iff.1 ha).2) (ascD_pairwise.1 (dbOk_iff.1 hb).2) fun o => ?_
  rw [pos ha, pos hb, h]
end Go.Proofs.Ytnnkdoomjkccgaa
