/- Parts of slices that read: s[:k], s[k:], s[i:j] of labels and of ints. -/
import Derived.Test.YtoebefpmfgkpoaaApp
namespace Go.Proofs.Ytoebefpmfgkpoaa
set_option linter.unusedSimpArgs false
set_option linter.unusedVariables false
open Go.RowKit

theorem cells2_take : ∀ (es : List (Int × Int)) (k : Nat), cells2 (es.take k) = (cells2 es).take (k * 2)
  | [], k => by simp [cells2]
  | e :: es, 0 => by simp [cells2]
  | e :: es, k + 1 => by
    have := cells2_take es k
    have e2 : (k + 1) * 2 = (k * 2) + 1 + 1 := by omega
    rw [e2]
    simpa [cells2] using this
theorem cells2_drop : ∀ (es : List (Int × Int)) (k : Nat), cells2 (es.drop k) = (cells2 es).drop (k * 2)
  | [], k => by simp [cells2]
  | e :: es, 0 => by simp
  | e :: es, k + 1 => by
    have := cells2_drop es k
    have e2 : (k + 1) * 2 = (k * 2) + 1 + 1 := by omega
    rw [e2]
    simpa [cells2] using this
theorem src_pairs {w : World} {A : Option Addr} {n c : Nat} {s : List (Int × Int)} (h : SrcAt w A n 2 (cells2 s)) (hn : s.length = n) (hc : n ≤ c) (hm : c ≤ maxLen) : PairsAt w (.slice A n c) s := by
  subst hn
  cases A with
  | none =>
    have h0 := h.2.1 rfl
    exact ⟨none, c, 0, 0, rfl, hc, hm, fun h => by omega, fun k x y hk => by have := (List.getElem?_eq_some_iff.1 hk).1; omega⟩
  | some ad =>
    obtain ⟨b, off, spot⟩ := ad
    by_cases h0 : s.length = 0
    · exact ⟨some ⟨b, off, spot⟩, c, b, off, rfl, hc, hm, fun h => by omega, fun k x y hk => by have := (List.getElem?_eq_some_iff.1 hk).1; omega⟩
    · obtain ⟨⟨x0, y0⟩, hx0⟩ := at_lt (l := s) (n := s.length) rfl (k := 0) (by omega)
      have hc0 := h.2.2 _ rfl 0 _ (by have := (cells2_at hx0).1; simpa using this)
      have hspot : spot = none := by simpa [Addr.add] using World.cell?_spot hc0
      subst hspot
      refine ⟨_, c, b, off, rfl, hc, hm, fun _ => rfl, fun k x y hk => ?_⟩
      obtain ⟨e0, e1⟩ := cells2_at hk
      have := h.2.2 _ rfl _ _ e0
      have := h.2.2 _ rfl _ _ e1
      simp only [addr_add] at *
      exact ⟨by assumption, by rw [Nat.add_assoc]; assumption⟩
theorem src_ints {w : World} {A : Option Addr} {n c : Nat} {s : List Int} (h : SrcAt w A n 1 (s.map (Value.int .i64))) (hn : s.length = n) (hc : n ≤ c) (hm : c ≤ maxLen) : IntsAt w (.slice A n c) s := by
  subst hn
  cases A with
  | none =>
    have h0 := h.2.1 rfl
    exact ⟨none, c, 0, 0, rfl, hc, hm, fun h => by omega, fun k x hk => by have := (List.getElem?_eq_some_iff.1 hk).1; omega⟩
  | some ad =>
    obtain ⟨b, off, spot⟩ := ad
    by_cases h0 : s.length = 0
    · exact ⟨some ⟨b, off, spot⟩, c, b, off, rfl, hc, hm, fun h => by omega, fun k x hk => by have := (List.getElem?_eq_some_iff.1 hk).1; omega⟩
    · obtain ⟨x0, hx0⟩ := at_lt (l := s) (n := s.length) rfl (k := 0) (by omega)
      have hc0 := h.2.2 _ rfl 0 _ (by rw [List.getElem?_map, hx0]; rfl)
      have hspot : spot = none := by simpa [Addr.add] using World.cell?_spot hc0
      subst hspot
      refine ⟨_, c, b, off, rfl, hc, hm, fun _ => rfl, fun k x hk => ?_⟩
      have := h.2.2 _ rfl k (.int .i64 x) (by rw [List.getElem?_map, hk]; rfl)
      rw [addr_add] at this
      exact this
/-- The part of a slice from l on, up to k. -/
def cutA (A : Option Addr) (c l size : Nat) : Option Addr := if c = l then A else A.map (·.add (l * size))
section
variable {P : Program}
theorem cut_src {w : World} {size : Nat} {A : Option Addr} {n c : Nat} {xs : List Value} (h : SrcAt w A n size xs) (hnc : n ≤ c) (l k : Nat) (hl : l ≤ k) (hk : k ≤ n) : SrcAt w (cutA A c l size) (k - l) size ((xs.drop (l * size)).take ((k - l) * size)) := by
  have hx : xs.length = n * size := h.1
  have hm : k * size ≤ n * size := Nat.mul_le_mul_right _ hk
  have hm2 : l * size + (k - l) * size = k * size := by rw [← Nat.add_mul]; congr 1; omega
  refine ⟨by rw [List.length_take, List.length_drop, hx]; exact Nat.min_eq_left (by omega), fun hA => ?_, fun ad hA j u hu => ?_⟩
  · unfold cutA at hA
    by_cases hc : c = l
    · omega
    · rw [if_neg hc] at hA
      have := h.2.1 (by simpa using hA)
      omega
  · rw [List.getElem?_take] at hu
    split at hu
    · rename_i hj
      have hkl : l < k := by
        rcases Nat.lt_or_ge l k with h1 | h1
        · exact h1
        · have : (k - l) * size = 0 := by rw [show k - l = 0 by omega, Nat.zero_mul]
          omega
      unfold cutA at hA
      rw [if_neg (by omega)] at hA
      obtain ⟨a0, ha0, rfl⟩ := Option.map_eq_some_iff.1 hA
      rw [List.getElem?_drop] at hu
      have := h.2.2 a0 ha0 _ u hu
      have e2 : (a0.add (l * size)).add j = a0.add (l * size + j) := by
        unfold Addr.add
        by_cases h1 : l * size = 0 <;> by_cases h2 : j = 0 <;> simp [h1, h2, Nat.add_assoc]
      rw [e2]
      exact this
    · cases hu
theorem run_head {t e : TypeId} {i : TypeInfo} (ht : P.underlying t = some (.slice e)) (hi : P.info? e = some i) {A : Option Addr} {n c : Nat} {k : Int} (K : Nat) (hk : k = K) (hkc : K ≤ c) (W : World) :
    (Instr.slice t (.slice A n c) none (some (.int .i64 k)) none).run P W = .ok (.slice (cutA A c 0 i.size) K c) W := by
  subst hk
  have he : P.elem t = e := by simp [Program.elem, ht]
  rw [run_slice_h (P := P) (w := W) t A n c (by rw [he]; exact ht) .i64 (K : Int) (by omega) (by omega), he]
  simp [sizeOf, typeInfo, hi, sliced, Result.andThen, cutA]
theorem run_tail {t e : TypeId} {i : TypeInfo} (ht : P.underlying t = some (.slice e)) (hi : P.info? e = some i) {A : Option Addr} {n c : Nat} {k : Int} (K : Nat) (hk : k = K) (hkc : K ≤ n) (W : World) :
    (Instr.slice t (.slice A n c) (some (.int .i64 k)) none none).run P W = .ok (.slice (cutA A c K i.size) (n - K) (c - K)) W := by
  subst hk
  have he : P.elem t = e := by simp [Program.elem, ht]
  rw [run_slice_l (P := P) (w := W) t A n c (by rw [he]; exact ht) .i64 (K : Int) (by omega) (by omega), he]
  simp [sizeOf, typeInfo, hi, sliced, Result.andThen, cutA]
theorem run_mid {t e : TypeId} {i : TypeInfo} (ht : P.underlying t = some (.slice e)) (hi : P.info? e = some i) {A : Option Addr} {n c : Nat} {l k : Int} (L K : Nat) (hl : l = L) (hk : k = K) (hlk : L ≤ K) (hkc : K ≤ c) (W : World) :
    (Instr.slice t (.slice A n c) (some (.int .i64 l)) (some (.int .i64 k)) none).run P W = .ok (.slice (cutA A c L i.size) (K - L) (c - L)) W := by
  subst hl
  subst hk
  have he : P.elem t = e := by simp [Program.elem, ht]
  rw [run_slice_lh (P := P) (w := W) t A n c (by rw [he]; exact ht) .i64 .i64 (L : Int) (K : Int) (by omega) (by omega) (by omega), he]
  simp [sizeOf, typeInfo, hi, sliced, Result.andThen, cutA]
end
theorem cutP {w : World} {A : Option Addr} {n c : Nat} {s : List (Int × Int)} (h : PairsAt w (.slice A n c) s) (l k : Nat) (hl : l ≤ k) (hk : k ≤ s.length) : PairsAt w (.slice (cutA A c l 2) (k - l) (c - l)) ((s.drop l).take (k - l)) := by
  obtain ⟨A', n', c', e, hn, hs⟩ := srcAt_pairs h
  obtain ⟨_, c2, _, _, e2, h1, h2, _⟩ := h
  cases e
  injection e2 with _ q1 q2
  subst q2
  have h3 := cut_src (c := c) hs (by omega) l k hl (by omega)
  refine src_pairs ?_ (by rw [List.length_take, List.length_drop]; omega) (by omega) (by omega)
  rw [cells2_take, cells2_drop]
  exact h3
theorem cutI {w : World} {A : Option Addr} {n c : Nat} {s : List Int} (h : IntsAt w (.slice A n c) s) (l k : Nat) (hl : l ≤ k) (hk : k ≤ s.length) : IntsAt w (.slice (cutA A c l 1) (k - l) (c - l)) ((s.drop l).take (k - l)) := by
  obtain ⟨A', n', c', e, hn, hs⟩ := srcAt_ints h
  obtain ⟨_, c2, _, _, e2, h1, h2, _⟩ := h
  cases e
  injection e2 with _ q1 q2
  subst q2
  have h3 := cut_src (c := c) hs (by omega) l k hl (by omega)
  refine src_ints ?_ (by rw [List.length_take, List.length_drop]; omega) (by omega) (by omega)
  rw [List.map_take, List.map_drop]
  simpa using h3
theorem cutP_head {w : World} {A : Option Addr} {n c : Nat} {s : List (Int × Int)} (h : PairsAt w (.slice A n c) s) (k : Nat) (hk : k ≤ s.length) : PairsAt w (.slice (cutA A c 0 2) k c) (s.take k) := by simpa using cutP h 0 k (Nat.zero_le _) hk
theorem cutI_head {w : World} {A : Option Addr} {n c : Nat} {s : List Int} (h : IntsAt w (.slice A n c) s) (k : Nat) (hk : k ≤ s.length) : IntsAt w (.slice (cutA A c 0 1) k c) (s.take k) := by simpa using cutI h 0 k (Nat.zero_le _) hk
theorem cutP_tail {w : World} {A : Option Addr} {n c : Nat} {s : List (Int × Int)} (h : PairsAt w (.slice A n c) s) (k : Nat) (hk : k ≤ s.length) : PairsAt w (.slice (cutA A c k 2) (s.length - k) (c - k)) (s.drop k) := by
  have := cutP h k s.length hk (Nat.le_refl _)
  rwa [List.take_of_length_le (by rw [List.length_drop]; exact Nat.le_refl _)] at this
theorem cutI_tail {w : World} {A : Option Addr} {n c : Nat} {s : List Int} (h : IntsAt w (.slice A n c) s) (k : Nat) (hk : k ≤ s.length) : IntsAt w (.slice (cutA A c k 1) (s.length - k) (c - k)) (s.drop k) := by
  have := cutI h k s.length hk (Nat.le_refl _)
  rwa [List.take_of_length_le (by rw [List.length_drop]; exact Nat.le_refl _)] at this
end Go.Proofs.Ytoebefpmfgkpoaa
