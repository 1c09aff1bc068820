/- seqOf, ascending; what is missing, number by number. -/
import Derived.Test.YtidcpdolcbbnjaaBase
import Derived.Test.YtidcpdolcbbnjaaPureDb
import Derived.Test.YtidcpdolcbbnjaaOwn
namespace Go.Proofs.Ytidcpdolcbbnjaa
open Go.RowKit

def seqB (db : List LsaD) (o : Int) : Int := match findD db o with | some d => d.2.1 | none => 0
theorem seqB_yes {db : List LsaD} {o : Int} {d : LsaD} (h : findD db o = some d) : seqB db o = d.2.1 := by simp [seqB, h]
theorem seqB_no {db : List LsaD} {o : Int} (h : findD db o = none) : seqB db o = 0 := by simp [seqB, h]
theorem findD_mem {db : List LsaD} {o : Int} {d : LsaD} (h : findD db o = some d) : d ∈ db ∧ d.1 = o := by
  unfold findD at h
  exact ⟨List.mem_of_find?_eq_some h, by simpa using List.find?_some h⟩
theorem asc_uniq {db : List LsaD} (hs : ascD db) {d d' : LsaD} (h : d ∈ db) (h' : d' ∈ db) (he : d.1 = d'.1) : d = d' := by
  obtain ⟨i, hi⟩ := List.getElem?_of_mem h
  obtain ⟨j, hj⟩ := List.getElem?_of_mem h'
  rcases Nat.lt_trichotomy i j with hc | hc | hc
  · have := hs i j d d' hc hi hj; omega
  · subst hc; rw [hi] at hj; injection hj
  · have := hs j i d' d hc hj hi; omega
theorem ok_seq {db : List LsaD} (h : dbOk db = true) {d : LsaD} (hd : d ∈ db) : 1 ≤ d.2.1 := by
  obtain ⟨i, hi⟩ := List.getElem?_of_mem hd
  exact (inB_iff.1 (lsaOk_iff.1 ((dbOk_iff.1 h).1 i d hi)).2.1).1
theorem miss_iff {db other : List LsaD} (h1 : dbOk db = true) (h2 : dbOk other = true) (o : Int) : hasI (missD db other) o = decide (seqB db o < seqB other o) := by
  have hm : hasI (missD db other) o = true ↔ ∃ d ∈ other, missB db d = true ∧ d.1 = o := by
    unfold hasI missD
    rw [List.any_eq_true]
    constructor
    · rintro ⟨x, hx, he⟩
      obtain ⟨d, hd, rfl⟩ := List.mem_map.1 hx
      obtain ⟨ha, hb⟩ := List.mem_filter.1 hd
      exact ⟨d, ha, hb, by simpa using he⟩
    · rintro ⟨d, ha, hb, he⟩
      exact ⟨d.1, List.mem_map.2 ⟨d, List.mem_filter.2 ⟨ha, hb⟩, rfl⟩, by simpa using he⟩
  rw [Bool.eq_iff_iff, hm, decide_eq_true_iff]
  have hs := (dbOk_iff.1 h2).2
  rcases hf : findD other o with _ | d
  · rw [seqB_no hf]
    constructor
    · rintro ⟨d, ha, _, he⟩
      unfold findD at hf
      rw [List.find?_eq_none] at hf
      exact absurd he (by simpa using hf d ha)
    · intro hlt
      exfalso
      rcases hg : findD db o with _ | d'
      · rw [seqB_no hg] at hlt; omega
      · rw [seqB_yes hg] at hlt
        have := ok_seq h1 (findD_mem hg).1
        omega
  · obtain ⟨hd, ho⟩ := findD_mem hf
    rw [seqB_yes hf]
    have hu : (∃ d ∈ other, missB db d = true ∧ d.1 = o) ↔ missB db d = true := by
      constructor
      · rintro ⟨d', ha, hb, he⟩
        rw [asc_uniq hs ha hd (by omega)] at hb
        exact hb
      · exact fun hb => ⟨d, hd, hb, ho⟩
    rw [hu]
    unfold missB
    rw [ho]
    rcases hg : findD db o with _ | d'
    · rw [seqB_no hg]
      have := ok_seq h2 hd
      simp only [true_iff]
      omega
    · rw [seqB_yes hg]
      simp
theorem miss_asc {db other : List LsaD} (h2 : dbOk other = true) : ∀ (k : Nat) (x y : Int), (missD db other)[k]? = some x → (missD db other)[k + 1]? = some y → x < y := by
  have hs := (dbOk_iff.1 h2).2
  have hp : other.Pairwise (fun a b => a.1 < b.1) := by
    rw [List.pairwise_iff_getElem]
    intro i j hi hj hij
    exact hs i j _ _ hij (List.getElem?_eq_getElem hi) (List.getElem?_eq_getElem hj)
  have hq : (missD db other).Pairwise (· < ·) := by
    unfold missD
    rw [List.pairwise_map]
    exact hp.filter _
  intro k x y hx hy
  rw [List.pairwise_iff_getElem] at hq
  obtain ⟨a, rfl⟩ := List.getElem?_eq_some_iff.1 hx
  obtain ⟨b, rfl⟩ := List.getElem?_eq_some_iff.1 hy
  exact hq k (k + 1) a b (by omega)
set_option maxHeartbeats 400000 in
theorem seqOf_any (db : List LsaD) (o : Int) (v : Value) (w : World) (hv : LsasAt w v db) : Calls Try.prog 20 #[v, .int .i64 o] w fun e w' => e = .returned (.int .i64 (seqB db o)) ∧ w = w' := by
  obtain ⟨a, cap, b, off, rfl, hcap, hmax, ha, hc⟩ := hv
  unfold maxLen at hmax
  obtain ⟨n, hn⟩ : ∃ n, n = db.length := ⟨_, rfl⟩
  rw [← hn] at hcap ha ⊢
  have HN := Lib.hid hn; clear hn
  have HC := Lib.hid hc; clear hc
  have HA := Lib.hid ha; clear ha
  go_enter Try.func20, Try.ntmps20
  go_wp2
  go_loop [5] (fun i => ∃ k : Nat, k ≤ n ∧ i = .int .i64 k ∧ Hid (∀ (j : Nat) (d : LsaD), j < k → db[j]? = some d → d.1 ≠ o)) (fun i => n - (intOf i).toNat)
  case atStart => exact ⟨0, Nat.zero_le _, rfl, Lib.hid (fun j d hj => by omega)⟩
  case round =>
    obtain ⟨k, hk, rfl, HI⟩ := hrel
    by_cases hkn : k < n
    · obtain ⟨⟨x, s, es⟩, hx⟩ := at_lt HN.out hkn
      have ha := HA.out (by omega)
      subst ha
      obtain ⟨u, d0, d1, d2, hu⟩ := HC.out k x s es hx
      have HX := Lib.hid hx
      clear hx hu d2
      rcases Bool.eq_false_or_eq_true (x == o) with hxo | hxo
      · go_wp2
        go_ret
        exact ⟨ret_int (seqB_yes (find_at HX.out (by simpa using hxo) fun j d hj hd => HI.out j d hj hd)).symm, rfl⟩
      · go_wp2
        go_round
        case rel =>
          refine ⟨k + 1, by omega, by go_num, Lib.hid fun j d hj hd => ?_⟩
          rcases Nat.lt_or_ge j k with h1 | h1
          · exact HI.out j d h1 hd
          · obtain rfl : j = k := by omega
            rw [HX.out] at hd
            injection hd with hd
            subst hd
            simpa using hxo
        case measure => simp [intOf]; omega
    · go_wp2
      go_ret
      exact ⟨ret_int (seqB_no (find_none fun j d hd => HI.out j d (by have := (List.getElem?_eq_some_iff.1 hd).1; have := HN.out; omega) hd)).symm, rfl⟩
end Go.Proofs.Ytidcpdolcbbnjaa
