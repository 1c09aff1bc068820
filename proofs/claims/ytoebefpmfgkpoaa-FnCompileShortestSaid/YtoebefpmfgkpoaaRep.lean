/- slices.Repeat of one number, up to eight times. -/
import Derived.Test.YtoebefpmfgkpoaaBase
import Derived.Test.YtoebefpmfgkpoaaCopyK
namespace Go.Proofs.Ytoebefpmfgkpoaa
set_option linter.unusedSimpArgs false
set_option linter.unusedVariables false
open Go.RowKit

theorem mul64_any (n : Int) (h : 1 ≤ n) (h8 : n ≤ 8) (w : World) : Calls Try.prog 93 #[.int .u64 1, .int .u64 n] w fun e w' => e = .returned (.tuple #[.int .u64 0, .int .u64 n]) ∧ w = w' := by
  have hn : n = 1 ∨ n = 2 ∨ n = 3 ∨ n = 4 ∨ n = 5 ∨ n = 6 ∨ n = 7 ∨ n = 8 := by omega
  rcases hn with rfl | rfl | rfl | rfl | rfl | rfl | rfl | rfl
  all_goals
    go_enter Try.func93, Try.ntmps93
    go_wp2_with fail
    go_ret2
    exact ⟨rfl, rfl⟩
theorem mul_any (n : Int) (h : 1 ≤ n) (h8 : n ≤ 8) (w : World) : Calls Try.prog 90 #[.int .u64 1, .int .u64 n] w fun e w' => e = .returned (.tuple #[.int .u64 0, .int .u64 n]) ∧ w = w' := by
  have e1 : IntKind.u64.wrap n = n := by rw [IntKind.wrap_u64]; omega
  go_enter Try.func90, Try.ntmps90
  go_wp2_with (go_at_call 93; refine (mul64_any _ h h8 _).mono ?_; rintro e w' ⟨rfl, rfl⟩)
  go_ret2
  exact ⟨rfl, rfl⟩
theorem Filled.setCells {b : Nat} {t : TypeId} {n : Nat} : ∀ (vs : List Value) {w : World} {xs : List Value}, Filled w b t n xs → xs.length + vs.length ≤ n → Filled (w.setCells b xs.length vs) b t n (xs ++ vs)
  | [], w, xs, h, _ => by rw [List.append_nil]; exact h
  | v :: vs, w, xs, h, hl => by
    simp only [List.length_cons] at hl
    have h1 := h.set rfl (by omega) v
    have h2 := Filled.setCells vs h1 (by simp; omega)
    rw [List.length_append, List.append_assoc] at h2
    exact h2
set_option maxRecDepth 100000 in
set_option maxHeartbeats 1000000 in
theorem repeat_any (c : Int) (B : Nat) (n : Nat) (h : 1 ≤ n) (h8 : n ≤ 8) (w : World) (hx : w.cell? ⟨B, 0, none⟩ = some (.int .i64 c)) : Calls Try.prog 76 #[.slice (some ⟨B, 0, none⟩) 1 1, .int .i64 n] w
    fun e w' => e = .returned (.slice (some ⟨w.heap.size, 0, none⟩) n n) ∧ Filled w' w.heap.size 3 n (List.replicate n (.int .i64 c)) ∧ Below w.heap.size w w' := by
  have infoI : (Try.prog.info? 3).map (fun i => (i.zero, i.size, i.bytes)) = some (some (.int .i64 0), 1, 8) := by kernel_rfl
  have hmk := run_make_row' 26 3 (.int .i64 0) 8 Try.underlying26 infoI rfl .i64 .i64 n (by omega) (by omega)
  have e0 : decide ((n:Int) < 0) = false := by simp
  have e1 : IntKind.u64.wrap (n:Int) = (n:Int) := by rw [IntKind.wrap_u64]; omega
  have e2 : IntKind.i64.wrap (n:Int) = (n:Int) := IntWalk.i64_in _ (by omega)
  have e3 : decide ((9223372036854775807:Int) < (n:Int)) = false := by simp; try omega
  have hB := cell_lt hx
  obtain ⟨W1, hW1⟩ : ∃ W1, W1 = w.alloc (.cells (madeCells #[.int .i64 0] n) 3) := ⟨_, rfl⟩
  have hF0 : Filled W1 w.heap.size 3 n [] := by rw [hW1]; exact filled_new w _ _ _ (by simp [size_madeCells])
  have hB1 : Below w.heap.size w W1 := by rw [hW1]; exact (Below.refl _ w).alloc (Nat.le_refl _) _
  have hsz : (Try.prog.info? 3).map (·.size) = some 1 := by kernel_rfl
  have hcp : ∀ (W : World) (j : Nat) (A : Addr) (sl sc dc : Nat) (ty : TypeId) (cs : List Value), Filled W w.heap.size 3 n (List.replicate j (.int .i64 c)) → cs = List.replicate (Nat.min sl (n - j)) (.int .i64 c) → (∀ i v, cs[i]? = some v → W.cell? (A.add i) = some v) → (Builtin.copy_ #[26, 26] ty #[.slice (some ⟨w.heap.size, j, none⟩) (n - j) dc, .slice (some A) sl sc]).run Try.prog W = .ok (goInt (Nat.min sl (n - j))) (W.setCells w.heap.size j cs) := fun W j A sl sc dc ty cs hF hcs hc =>
    run_copy_k W _ _ ty 3 1 w.heap.size j (n - j) dc A sl sc cs Try.underlying26 hsz (by rw [hcs]; simp) hc
      (fun i hi => by
        have hl : i < n - j := by rw [hcs, List.length_replicate] at hi; exact Nat.lt_of_lt_of_le hi (Nat.min_le_right _ _)
        obtain ⟨u, hu⟩ := hF.cell (j + i) (by omega)
        rw [hu]; rfl) (fun i _ => hF.frozen _) (fun v hv => by rw [hcs] at hv; rw [(List.mem_replicate.1 hv).2]; rfl)
  have hmk1 := hmk w
  rw [← hW1] at hmk1
  have HF0 := Lib.hid hF0; have HB1 := Lib.hid hB1; have HCP := Lib.hid hcp
  have hx1 := cell_below hB1 hx hB
  have r1 := hcp W1 0 ⟨B, 0, none⟩ 1 1 n 3 [.int .i64 c] hF0 (by rw [show Nat.min 1 (n - 0) = 1 by simp only [Nat.min_def]; split <;> omega]; rfl) (fun i v hi => by
    rw [addr_add]
    have : i = 0 := by have := (List.getElem?_eq_some_iff.1 hi).1; simp at this; exact this
    subst this
    simp at hi; subst hi; exact hx1)
  have hF1 : Filled (W1.setCells w.heap.size 0 [.int .i64 c]) w.heap.size 3 n (List.replicate 1 (.int .i64 c)) := Filled.setCells [.int .i64 c] hF0 (by simp; omega)
  obtain ⟨W2, hW2⟩ : ∃ W2, W2 = W1.setCells w.heap.size 0 [.int .i64 c] := ⟨_, rfl⟩
  rw [← hW2] at r1 hF1
  rw [show Nat.min 1 (n - 0) = 1 by simp only [Nat.min_def]; split <;> omega, Nat.sub_zero] at r1
  have hB2 : Below w.heap.size w W2 := by
    rw [hW2]
    have := grown_setCells (a := W1) [.int .i64 c] 0 W1 (only_refl W1 (some w.heap.size))
    exact hB1.trans ⟨this.os, this.tape, this.output, this.size, fun i hi => this.block i (by have := hB1.size; omega) (by simp; omega)⟩
  have HF1 := Lib.hid hF1; have HB2 := Lib.hid hB2
  clear hmk hcp hF0 hB1 hW1 hW2 hF1 hB2 hsz infoI
  go_enter Try.func76, Try.ntmps76
  go_wp2_with (first | (go_at_call 90; refine (mul_any _ (by omega) (by omega) _).mono ?_; rintro e w' ⟨rfl, rfl⟩) | (at_builtin; refine wpList_copy_runK _ rfl _ _ _ _ rfl _ _ rfl rfl r1 ?_))
  go_loopw [8] (fun x wr => ∃ j : Nat, 1 ≤ j ∧ j ≤ n ∧ x = .int .i64 j ∧ Filled wr w.heap.size 3 n (List.replicate j (.int .i64 c)) ∧ Below w.heap.size w wr) (fun x _ => n - (intOf x).toNat)
  case atStart => exact ⟨1, Nat.le_refl _, h, rfl, HF1.out, HB2.out⟩
  case round =>
    obtain ⟨j, hj1, hjn, rfl, hF, hB⟩ := hrel
    have HF := Lib.hid hF; have HB := Lib.hid hB
    clear HF1 HB2 r1 hmk1
    by_cases hlt : j < n
    · have hd : decide ((j:Int) < (n:Int)) = true := by simp; omega
      have hnj : ¬ n = j := by omega
      have hjI : (j:Int) ≤ (n:Int) := by omega
      obtain ⟨q, hq⟩ : ∃ q, Nat.min j (n - j) = q := ⟨_, rfl⟩
      have hq1 : 1 ≤ q ∧ j + q ≤ n := by rw [← hq]; simp only [Nat.min_def]; split <;> omega
      have r := HCP.out wr.drew j ⟨w.heap.size, 0, none⟩ j n (n - j) 3 (List.replicate (Nat.min j (n - j)) (.int .i64 c)) hF rfl (fun i v hi => by
        rw [addr_add, Nat.zero_add]
        obtain ⟨cur, c1, c2, c3, c4⟩ := hF
        rw [List.getElem?_replicate] at hi
        split at hi
        · rename_i hil
          injection hi with hi
          subst hi
          have hij : i < j := Nat.lt_of_lt_of_le hil (Nat.min_le_left _ _)
          have := congrArg (fun l : List Value => l[i]?) c4
          rw [List.length_replicate] at this
          simp only [List.getElem?_take, List.getElem?_replicate, hij, if_true] at this
          show wr.cell? _ = _
          simp only [World.cell?]
          rw [c1]
          simpa using this
        · cases hi)
      rw [hq] at r
      have hF3 : Filled (wr.drew.setCells w.heap.size j (List.replicate q (.int .i64 c))) w.heap.size 3 n (List.replicate (j + q) (.int .i64 c)) := by
        have := Filled.setCells (List.replicate q (.int .i64 c)) (w := wr.drew) hF (by simp; omega)
        rw [List.length_replicate, List.replicate_append_replicate] at this
        exact this
      obtain ⟨W3, hW3⟩ : ∃ W3, W3 = wr.drew.setCells w.heap.size j (List.replicate q (.int .i64 c)) := ⟨_, rfl⟩
      rw [← hW3] at r hF3
      have hB3 : Below w.heap.size w W3 := by
        rw [hW3]
        have := grown_setCells (a := wr) (List.replicate q (.int .i64 c)) j wr.drew (only_drew (only_refl wr (some w.heap.size)))
        exact hB.trans ⟨this.os, this.tape, this.output, this.size, fun i hi => this.block i (by have := hB.size; omega) (by simp; omega)⟩
      have w1 : IntKind.i64.wrap ((j:Int) + (q:Int)) = (j:Int) + (q:Int) := IntWalk.i64_in _ (by omega)
      have HF3 := Lib.hid hF3; have HB3 := Lib.hid hB3
      clear hF3 hB3 hW3 hF hB hq
      go_wp2_with fail
      go_region
      go_wp2_with fail
      go_roundw
      case rel => exact ⟨j + q, by omega, by omega, by first | rfl | (congr 1; push_cast; omega) | go_num, HF3.out, HB3.out⟩
      case measure => simp [intOf]; omega
    · obtain rfl : j = n := by omega
      have hd : decide ((j:Int) < (j:Int)) = false := by simp
      go_wp2_with fail
      go_ret
      exact ⟨rfl, HF.out, HB.out⟩
end Go.Proofs.Ytoebefpmfgkpoaa
