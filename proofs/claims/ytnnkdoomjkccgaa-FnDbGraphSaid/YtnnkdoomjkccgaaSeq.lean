/- seqOf, ascending; what is missing, number by number. -/
import Derived.Test.YtnnkdoomjkccgaaBase
import Derived.Test.YtnnkdoomjkccgaaPureDb
import Derived.Test.YtnnkdoomjkccgaaOwn2
namespace Go.Proofs.Ytnnkdoomjkccgaa
set_option linter.unusedSimpArgs false
set_option linter.unusedVariables false
open Go.RowKit

def seqB (db : List LsaD) (o : Int) : Int := match findD db o with | some d => d.2.1 | none => 0
theorem seqB_yes {db : List LsaD} {o : Int} {d : LsaD} (h : findD db o = some d) : seqB db o = d.2.1 := by simp [seqB, h]
theorem seqB_no {db : List LsaD} {o : Int} (h : findD db o = none) : seqB db o = 0 := by simp [seqB, h]
theorem findD_mem {db : List LsaD} {o : Int} {d : LsaD} (h : findD db o = some d) : d ∈ db ∧ d.1 = o := by
  unfold findD at h
  exact ⟨List.mem_of_find?_eq_some h, by simpa using List.find?_some h⟩
theorem asc_uniq {db : List LsaD} (hs : ascD db) {d d' : LsaD} (h : d ∈ db) (h' : d' ∈ db) (he : d.1 = d'.1) : d = d' := by
  obtain ⟨i, hi⟩ := List.getElem?_of_mem h
  obtain ⟨j, hj⟩ := List.getElem?_of_mem h'
  rcases Nat.lt_trichotomy i j with hc | hc | hc
  · have := hs i j d d' hc hi hj; omega
  · subst hc; rw [hi] at hj; injection hj
  · have := hs j i d' d hc hj hi; omega
theorem ok_seq {db : List LsaD} (h : dbOk db = true) {d : LsaD} (hd : d ∈ db) : 1 ≤ d.2.1 := by
  obtain ⟨i, hi⟩ := List.getElem?_of_mem hd
  exact (inB_iff.1 (lsaOk_iff.1 ((dbOk_iff.1 h).1 i d hi)).2.1).1
theorem miss_iff {db other : List LsaD} (h1 : dbOk db = true) (h2 : dbOk other = true) (o : Int) : hasI (missD db other) o = decide (seqB db o < seqB other o) := by
  have hm : hasI (missD db other) o = true ↔ ∃ d ∈ other, missB db d = true ∧ d.1 = o := by
    unfold hasI missD
    rw [List.any_eq_true]
    constructor
    · rintro ⟨x, hx, he⟩
      obtain ⟨d, hd, rfl⟩ := List.mem_map.1 hx
      obtain ⟨ha, hb⟩ := List.mem_filter.1 hd
      exact ⟨d, ha, hb, by simpa using he⟩
    · rintro ⟨d, ha, hb, he⟩
      exact ⟨d.1, List.mem_map.2 ⟨d, List.mem_filter.2 ⟨ha, hb⟩, rfl⟩, by simpa using he⟩
  rw [Bool.eq_iff_iff, hm, decide_eq_true_iff]
  have hs := (dbOk_iff.1 h2).2
  rcases hf : findD other o with _ | d
  · rw [seqB_no hf]
    constructor
    · rintro ⟨d, ha, _, he⟩
      unfold findD at hf
      rw [List.find?_eq_none] at hf
      exact absurd he (by simpa using hf d ha)
    · intro hlt
      exfalso
      rcases hg : findD db o with _ | d'
      · rw [seqB_no hg] at hlt; omega
      · rw [seqB_yes hg] at hlt
        have := ok_seq h1 (findD_mem hg).1
        omega
  · obtain ⟨hd, ho⟩ := findD_mem hf
    rw [seqB_yes hf]
    have hu : (∃ d ∈ other, missB db d = true ∧ d.1 = o) ↔ missB db d = true := by
      constructor
      · rintro ⟨d', ha, hb, he⟩
        rw [asc_uniq hs ha hd (by omega)] at hb
        exact hb
      · exact fun hb => ⟨d, hd, hb, ho⟩
    rw [hu]
    unfold missB
    rw [ho]
    rcases hg : findD db o with _ | d'
    · rw [seqB_no hg]
      have := ok_seq h2 hd
      simp only [true_iff]
      omega
    · rw [seqB_yes hg]
      simp
theorem miss_asc {db other : List LsaD} (h2 : dbOk other = true) : ∀ (k : Nat) (x y : Int), (missD db other)[k]? = some x → (missD db other)[k + 1]? = some y → x < y := by
  have hs := (dbOk_iff.1 h2).2
  have hp : other.Pairwise (fun a b => a.1 < b.1) := by
    rw [List.pairwise_iff_getElem]
    intro i j hi hj hij
    exact hs i j _ _ hij (List.getElem?_eq_getElem hi) (List.getElem?_eq_getElem hj)
  have hq : (missD db other).Pairwise (· < ·) := by
    unfold missD
    rw [List.pairwise_map]
    exact hp.filter _
  intro k x y hx hy
  rw [List.pairwise_iff_getElem] at hq
  obtain ⟨a, rfl⟩ := List.getElem?_eq_some_iff.1 hx
  obtain ⟨b, rfl⟩ := List.getElem?_eq_some_iff.1 hy
  exact hq k (k + 1) a b (by omega)
end Go.Proofs.Ytnnkdoomjkccgaa
