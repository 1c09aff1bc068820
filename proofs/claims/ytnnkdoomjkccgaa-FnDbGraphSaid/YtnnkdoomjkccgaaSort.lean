/- slices.Sort on a short row of integers (12 or fewer): sorted in place. -/
import Derived.Test.YtnnkdoomjkccgaaOth
import Derived.Test.YtnnkdoomjkccgaaNodes
import Derived.Test.YtnnkdoomjkccgaaLk
import Derived.Sort.LotA
namespace Go.Proofs.Ytnnkdoomjkccgaa
set_option linter.unusedSimpArgs false
set_option linter.unusedVariables false
open Go.RowKit

theorem nan_any (x : Int) (w : World) : Calls Try.prog 96 #[.int .i64 x] w fun e w' => e = .returned (.bool false) ∧ w = w' := by
  go_enter Try.func96, Try.ntmps96
  go_wp2
  go_ret
  exact ⟨ret_bool (by simp), rfl⟩
theorem less_any (x y : Int) (w : World) : Calls Try.prog 105 #[.int .i64 x, .int .i64 y] w fun e w' => e = .returned (.bool (decide (x < y))) ∧ w = w' := by
  go_enter Try.func105, Try.ntmps105
  go_wp2_with (go_at_call 96; refine (nan_any _ _).mono ?_; rintro e w' ⟨rfl, rfl⟩)
  go_ret
  exact ⟨rfl, rfl⟩
set_option maxHeartbeats 4000000 in
set_option maxRecDepth 1000000 in
theorem len64_any (n : Nat) (hn : n ≤ 12) (w : World) : Calls Try.prog 109 #[.int .u64 (n:Int)] w fun e w' => ∃ v : Int, e = .returned (.int .i64 v) ∧ w = w' := by
  have h1 : (n:Int) < 256 := by omega
  have h0 : (0:Int) ≤ (n:Int) := by omega
  have t0 : decide ((4294967296:Int) ≤ (n:Int)) = false := by simp; omega
  have t1 : decide ((65536:Int) ≤ (n:Int)) = false := by simp; omega
  have t2 : decide ((256:Int) ≤ (n:Int)) = false := by simp; omega
  go_enter Try.func109, Try.ntmps109
  go_wp2
  go_ret
  exact ⟨_, rfl, rfl⟩
set_option maxHeartbeats 4000000 in
theorem len_any (n : Nat) (hn : n ≤ 12) (w : World) : Calls Try.prog 92 #[.int .u64 (n:Int)] w fun e w' => ∃ v : Int, e = .returned (.int .i64 v) ∧ w = w' := by
  go_enter Try.func92, Try.ntmps92
  go_wp2_with (go_at_call 109; refine (len64_any n hn _).mono ?_; rintro e w' ⟨v, rfl, rfl⟩)
  go_ret
  exact ⟨_, rfl, rfl⟩

section
open Go.Sort
variable {α : Type} [Inhabited α] (lt : α → α → Bool)
theorem inn_go (a j : Nat) (d : Array α) (hj : a < j) (hl : lt d[j]! d[j - 1]! = true) : insInner lt a j d = insInner lt a (j - 1) (swp d j (j - 1)) := by
  obtain ⟨k, rfl⟩ : ∃ k, j = k + 1 := ⟨j - 1, by omega⟩
  rw [insInner]
  simp only [Nat.add_sub_cancel] at hl ⊢
  simp [hj, hl]
theorem inn_stop (a j : Nat) (d : Array α) (h : j ≤ a ∨ lt d[j]! d[j - 1]! = false) : insInner lt a j d = d := by
  cases j with
  | zero => rw [insInner]
  | succ k =>
    rw [insInner]
    simp only [Nat.add_sub_cancel] at h
    rcases h with h | h
    · simp [show ¬ k + 1 > a by omega]
    · simp [h]
theorem out_go (a b i : Nat) (d : Array α) (h : i < b) : insOuter lt a b i d = insOuter lt a b (i + 1) (insInner lt a i d) := by rw [insOuter, if_pos h]
theorem out_stop (a b i : Nat) (d : Array α) (h : ¬ i < b) : insOuter lt a b i d = d := by rw [insOuter, if_neg h]
end
def cellsA (d : Array Int) : List Value := d.toList.map (Value.int .i64)
def RowA (w : World) (lo : Nat) (g cap : Nat) (d : Array Int) : Prop := w.ownsRow lo 3 1 (.slice (some ⟨g, 0, none⟩) d.size cap) d.size (cellsA d)
theorem RowA.at_ {w : World} {lo g cap : Nat} {d : Array Int} (h : RowA w lo g cap d) {k : Nat} (hk : k < d.size) : w.cell? ⟨g, k, none⟩ = some (.int .i64 d[k]!) ∧ w.frozen? ⟨g, k, none⟩ = false := by
  refine ⟨(h.cellAt k (by omega)).trans ?_, h.frozenAt _⟩
  simp [cellsA, hk]
theorem RowA.set {w : World} {lo g cap : Nat} {d : Array Int} (h : RowA w lo g cap d) (k : Nat) (x : Int) : RowA (w.setCell ⟨g, k, none⟩ (.int .i64 x)) lo g cap (d.setIfInBounds k x) := by
  have e : cellsA (d.setIfInBounds k x) = (cellsA d).set k (.int .i64 x) := by simp [cellsA, List.map_set]
  unfold RowA
  rw [e, Array.size_setIfInBounds]
  exact (h.stored k (.int .i64 x)).1
set_option maxRecDepth 100000 in
set_option maxHeartbeats 4000000 in
theorem insertion_any (lo g cap n : Nat) (d : Array Int) (w : World) (h : RowA w lo g cap d) (hn : d.size = n) (hn12 : n ≤ 12) :
    Calls Try.prog 99 #[.slice (some ⟨g, 0, none⟩) n cap, .int .i64 0, .int .i64 (n:Int)] w fun e w' =>
      e = .returned (.tuple #[]) ∧ RowA w' lo g cap (Go.Sort.insertionSort Go.Sort.ltInt d 0 n) ∧ w.grownBy w' (some g) := by
  have HR0 := Lib.hid h; have HN := Lib.hid hn
  clear h hn
  go_enter Try.func99, Try.ntmps99
  go_wp2
  go_loopw [6] (fun vi wr => ∃ (i : Nat) (dk : Array Int), vi = .int .i64 i ∧ 1 ≤ i ∧ i ≤ n + 1 ∧ dk.size = n ∧ RowA wr lo g cap dk ∧ w.grownBy wr (some g) ∧ Go.Sort.insOuter Go.Sort.ltInt 0 n i dk = Go.Sort.insOuter Go.Sort.ltInt 0 n 1 d) (fun vi _ => n + 1 - (intOf vi).toNat)
  case atStart => exact ⟨1, d, by go_num, by omega, by omega, HN.out, HR0.out, only_refl _ _, rfl⟩
  case round =>
    obtain ⟨i, dk, rfl, hi1, hin, hsk, hR, hGr, hO⟩ := hrel
    have HR := Lib.hid hR; have HGr := Lib.hid hGr; have HO := Lib.hid hO; have HSK := Lib.hid hsk
    clear HR0 hR hGr hO hsk
    by_cases hil : i < n
    · have hiI : (i:Int) < (n:Int) := by omega
      go_wp2_with fail
      go_loopw [7] (fun vj wr2 => ∃ (j : Nat) (dj : Array Int), vj = .int .i64 j ∧ j ≤ i ∧ dj.size = n ∧ RowA wr2 lo g cap dj ∧ w.grownBy wr2 (some g) ∧ Go.Sort.insInner Go.Sort.ltInt 0 j dj = Go.Sort.insInner Go.Sort.ltInt 0 i dk) (fun vj _ => (intOf vj).toNat)
      case atStart => exact ⟨i, dk, rfl, Nat.le_refl _, HSK.out, HR.out, HGr.out, rfl⟩
      case round =>
        obtain ⟨j, dj, rfl, hji, hsj, hR2, hG2, hI⟩ := hrel
        have HR2 := Lib.hid hR2; have HG2 := Lib.hid hG2; have HI := Lib.hid hI; have HSJ := Lib.hid hsj
        clear hR2 hG2 hI HR HGr hsj
        have OUT : Hid ((j ≤ 0 ∨ Go.Sort.ltInt dj[j]! dj[j - 1]! = false) → Go.Sort.insOuter Go.Sort.ltInt 0 n (i + 1) dj = Go.Sort.insOuter Go.Sort.ltInt 0 n 1 d) := Lib.hid fun hs => by
          rw [← HO.out, out_go _ _ _ _ _ hil, ← HI.out, inn_stop _ _ _ _ hs]
        by_cases hj0 : 0 < j
        · have hjI : (0:Int) < (j:Int) := by omega
          have hjn : (j:Int) < (n:Int) := by omega
          have hj0' : (0:Int) ≤ (j:Int) := by omega
          have w1 : IntKind.i64.wrap ((j:Int) - 1) = (j:Int) - 1 := IntWalk.i64_in _ (by omega)
          have w2 : (0:Int) ≤ (j:Int) - 1 := by omega
          have w3 : ((j:Int) - 1).toNat = j - 1 := by omega
          have w4 : (j:Int) - 1 < (n:Int) := by omega
          obtain ⟨p, hp⟩ : ∃ p, dj[j]! = p := ⟨_, rfl⟩
          obtain ⟨q, hq⟩ : ∃ q, dj[j - 1]! = q := ⟨_, rfl⟩
          obtain ⟨c0, f0⟩ := HR2.out.at_ (k := j) (by have := HSJ.out; omega)
          obtain ⟨c1, f1⟩ := HR2.out.at_ (k := j - 1) (by have := HSJ.out; omega)
          rw [hp] at c0
          rw [hq] at c1
          have HP := Lib.hid hp; have HQ := Lib.hid hq
          clear hp hq
          have hjj : ¬ j = j - 1 := by omega
          have hjj2 : ¬ j - 1 = j := by omega
          rcases Bool.eq_false_or_eq_true (decide (p < q)) with hl | hl
          · have HLess : Hid (∀ W, Calls Try.prog 105 #[.int .i64 p, .int .i64 q] W fun e w' => e = .returned (.bool true) ∧ W = w') := Lib.hid fun W => by rw [← hl]; exact less_any _ _ _
            have HL := Lib.hid hl
            clear hl
            go_wp2_with fail
            go_quiet (first | (go_at_call 105; refine quiet_drewN_same (HLess.out _)))
            go_wp2_with fail
            go_region
            go_wp2_with fail
            go_roundw
            case rel =>
              refine ⟨j - 1, Go.Sort.swp dj j (j - 1), by congr 1; omega, by omega, by simpa [Go.Sort.swp] using HSJ.out, ?_, ?_, ?_⟩
              · unfold Go.Sort.swp
                rw [HP.out, HQ.out]
                exact RowA.set (RowA.set (own_drewN HR2.out _) j q) (j - 1) p
              · exact only_setCell (only_setCell (only_drewN HG2.out _) (.inl rfl) _) (.inl rfl) _
              · rw [← HI.out, inn_go Go.Sort.ltInt 0 j dj hj0 (by rw [HP.out, HQ.out]; exact HL.out)]
            case measure => simp [intOf]; omega
          · have HLess : Hid (∀ W, Calls Try.prog 105 #[.int .i64 p, .int .i64 q] W fun e w' => e = .returned (.bool false) ∧ W = w') := Lib.hid fun W => by rw [← hl]; exact less_any _ _ _
            have HL := Lib.hid hl
            clear hl
            go_wp2_with fail
            go_quiet (first | (go_at_call 105; refine quiet_drewN_same (HLess.out _)))
            go_wp2_with fail
            go_roundw
            case rel =>
              exact ⟨i + 1, dj, by go_num, by omega, by omega, HSJ.out, HR2.out, only_drewN HG2.out _, OUT.out (.inr (by rw [HP.out, HQ.out]; exact HL.out))⟩
            case measure => simp [intOf]; omega
        · obtain rfl : j = 0 := by omega
          have z0 : decide ((0:Int) < ((0:Nat):Int)) = false := by simp
          go_wp2_with fail
          go_quiet (fail)
          go_wp2_with fail
          go_roundw
          case rel =>
            exact ⟨i + 1, dj, by go_num, by omega, by omega, HSJ.out, HR2.out, only_drewN HG2.out _, OUT.out (.inl (Nat.le_refl _))⟩
          case measure => simp [intOf]; omega
    · obtain hin2 : i = n ∨ i = n + 1 := by omega
      have hnot : ¬ ((i:Int) < (n:Int)) := by omega
      go_wp2_with fail
      go_end0
      exact ⟨rfl, by have := HR.out; rw [Go.Sort.insertionSort, ← HO.out, out_stop _ _ _ _ _ hil]; exact this, HGr.out⟩
set_option maxRecDepth 100000 in
set_option maxHeartbeats 4000000 in
theorem pdq_any (lo g cap n : Nat) (d : Array Int) (k : Int) (w : World) (h : RowA w lo g cap d) (hn : d.size = n) (hn12 : n ≤ 12) :
    Calls Try.prog 91 #[.slice (some ⟨g, 0, none⟩) n cap, .int .i64 0, .int .i64 (n:Int), .int .i64 k] w fun e w' =>
      e = .returned (.tuple #[]) ∧ RowA w' lo g cap (Go.Sort.insertionSort Go.Sort.ltInt d 0 n) ∧ w.grownBy w' (some g) := by
  have HR := Lib.hid h; have HN := Lib.hid hn
  have w0 : IntKind.i64.wrap (n:Int) = (n:Int) := IntWalk.i64_in _ (by omega)
  clear h hn
  go_enter Try.func91, Try.ntmps91
  go_wp2_with fail
  refine wp_loop_rounds 1 ?_
  rw [rounds_succ]
  have h12 : (n:Int) ≤ 12 := by omega
  go_wp2_with fail
  refine (insertion_any lo g cap n d _ HR.out HN.out hn12).mono ?_
  rintro e w' ⟨rfl, hR, hG⟩
  have HR2 := Lib.hid hR; have HG2 := Lib.hid hG
  clear hR hG
  go_wp2_with fail
  (try simp only [Exit.inBlock, Exit.then])
  refine bodyPost_ret (results_none rfl _ _ _) rfl ?_
  exact ⟨rfl, HR2.out, HG2.out⟩
set_option maxRecDepth 100000 in
set_option maxHeartbeats 4000000 in
theorem sort_any (lo g cap n : Nat) (d : Array Int) (w : World) (h : RowA w lo g cap d) (hn : d.size = n) (hn12 : n ≤ 12) :
    Calls Try.prog 79 #[.slice (some ⟨g, 0, none⟩) n cap] w fun e w' =>
      e = .returned (.tuple #[]) ∧ RowA w' lo g cap (Go.Sort.insertionSort Go.Sort.ltInt d 0 n) ∧ w.grownBy w' (some g) := by
  have HR := Lib.hid h; have HN := Lib.hid hn
  clear h hn
  have w0 : IntKind.u64.wrap (n:Int) = (n:Int) := IntWalk.u64_in _ (by omega)
  go_enter Try.func79, Try.ntmps79
  go_wp2_with fail
  refine (len_any n hn12 _).mono ?_
  rintro e w' ⟨v, rfl, rfl⟩
  go_wp2_with fail
  refine (pdq_any lo g cap n d v _ HR.out HN.out hn12).mono ?_
  rintro e w' ⟨rfl, hR, hG⟩
  have HR2 := Lib.hid hR; have HG2 := Lib.hid hG
  clear hR hG
  go_wp2_with fail
  go_end0
  exact ⟨rfl, HR2.out, HG2.out⟩
/-- The sorted list, and what is in it. -/
def sortL (xs : List Int) : List Int := xs.mergeSort (fun x y => decide (x ≤ y))
theorem insSort_eq (d : Array Int) : (Go.Sort.insertionSort Go.Sort.ltInt d 0 d.size).toList = sortL d.toList := by
  obtain ⟨hP, hS⟩ := Go.Sort.insertionSort_holds (lt := Go.Sort.ltInt) Go.Sort.swo_ltInt d 0 d.size (Nat.zero_le _) (Nat.le_refl _)
  rw [Go.Sort.sorted_unique_holds Go.Sort.swo_ltInt (fun x y h1 h2 => by simp only [Go.Sort.ltInt, decide_eq_false_iff_not] at h1 h2; omega) d _ hP hS]
  unfold sortL
  congr 1
  funext x y
  show (!decide (y < x)) = decide (x ≤ y)
  by_cases h : x ≤ y
  · have h' : ¬ y < x := by omega
    simp [h, h']
  · have h' : y < x := by omega
    simp [h, h']
theorem sortL_eq {xs ys : List Int} (hx : xs.Nodup) (hy : ys.Pairwise (· < ·)) (hm : ∀ z, z ∈ xs ↔ z ∈ ys) : sortL xs = ys := by
  have hp : (sortL xs).Perm ys := by
    refine (List.mergeSort_perm _ _).trans ?_
    rw [List.perm_ext_iff_of_nodup hx (hy.imp (fun h => by omega))]
    exact hm
  refine List.Perm.eq_of_pairwise (le := fun x y => x ≤ y) ?_ ?_ ?_ hp
  · intro a b _ _ h1 h2; omega
  · have := List.pairwise_mergeSort (le := fun x y : Int => decide (x ≤ y)) (fun a b c h1 h2 => by simp at *; omega) (fun a b => by simp; omega) xs
    exact this.imp (fun h => by simpa using h)
  · exact hy.imp (fun h => by omega)
end Go.Proofs.Ytnnkdoomjkccgaa
