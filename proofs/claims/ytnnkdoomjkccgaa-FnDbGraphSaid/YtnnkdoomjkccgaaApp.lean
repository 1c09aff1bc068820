/- append onto a row of the call's own, of whatever slice that reads (none, empty or not): as a step of a region that draws, and as the next operation of a plain one. No program in sight. -/
import Derived.Test.YtnnkdoomjkccgaaOwn2
import Derived.Maps.AppendAt
import Derived.Deep.AppendLies
import Derived.Deep.RegionLaw
import Derived.OwnWalk
namespace Go.Proofs.Ytnnkdoomjkccgaa
set_option linter.unusedSimpArgs false
set_option linter.unusedVariables false
open Go.RowKit

/-- A slice value whose n elements are the cells xs. -/
def SrcAt (w : World) (A : Option Addr) (n size : Nat) (xs : List Value) : Prop := xs.length = n * size ∧ (A = none → n = 0) ∧ ∀ ad, A = some ad → ∀ j u, xs[j]? = some u → w.cell? (ad.add j) = some u
theorem addr_add (b o k : Nat) : (⟨b, o, none⟩ : Addr).add k = ⟨b, o + k, none⟩ := by unfold Addr.add; split <;> simp_all
theorem ints_one {k : IntKind} {l : List Int} : ∀ u ∈ l.map (Value.int k), u.oneCell' = true := by intro u hu; obtain ⟨x, _, rfl⟩ := List.mem_map.1 hu; rfl
theorem cells2_one (es : List (Int × Int)) : ∀ u ∈ cells2 es, u.oneCell' = true := by
  intro u hu
  simp only [cells2, List.mem_flatMap] at hu
  obtain ⟨e, _, he⟩ := hu
  simp at he
  rcases he with rfl | rfl <;> rfl
theorem srcAt_one {w : World} {b o n : Nat} {cs : Array Value} {t : TypeId} (h : Box w b cs t) (hs : cs.size = n * o) : SrcAt w (some ⟨b, 0, none⟩) n o cs.toList :=
  ⟨by simpa using hs, fun h => by simp at h, fun ad he j u hu => by
    injection he with he
    subst he
    rw [addr_add]
    exact h.cell _ u (by simpa using hu)⟩
theorem SrcAt.below {w w' : World} {A : Option Addr} {n size : Nat} {xs : List Value} (h : SrcAt w A n size xs) {B : Nat} (hb : Below B w w') (hB : w.heap.size ≤ B) : SrcAt w' A n size xs :=
  ⟨h.1, h.2.1, fun ad hA j u hu => (hb.cell (by have := World.block_lt_of_cell? w _ (h.2.2 ad hA j u hu); omega)).trans (h.2.2 ad hA j u hu)⟩
theorem pairsAt_box {w : World} {b : Nat} {x y : Int} {t : TypeId} (h : Box w b #[.int .i64 x, .int .i64 y] t) : PairsAt w (.slice (some ⟨b, 0, none⟩) 1 1) [(x, y)] := by
  refine ⟨_, 1, b, 0, rfl, Nat.le_refl _, by unfold maxLen; omega, fun _ => rfl, fun k x' y' hk => ?_⟩
  have hl := (List.getElem?_eq_some_iff.1 hk).1
  simp at hl
  subst hl
  simp at hk
  obtain ⟨rfl, rfl⟩ := hk
  exact ⟨h.cell 0 _ rfl, h.cell 1 _ rfl⟩
/-- Part of a slice of pairs. -/
theorem srcAt_pairs {w : World} {v : Value} {es : List (Int × Int)} (h : PairsAt w v es) : ∃ A n c, v = .slice A n c ∧ n = es.length ∧ SrcAt w A n 2 (cells2 es) := by
  obtain ⟨A, cap, b, off, rfl, h1, h2, h3, h4⟩ := h
  refine ⟨A, _, cap, rfl, rfl, cells2_len es, fun hA => ?_, fun ad hA j u hu => ?_⟩
  · rcases Nat.eq_zero_or_pos es.length with h0 | h0
    · exact h0
    · rw [h3 h0] at hA; cases hA
  · have hl : j < es.length * 2 := by rw [← cells2_len es]; exact (List.getElem?_eq_some_iff.1 hu).1
    have e := h3 (by omega)
    rw [hA] at e
    injection e with e
    subst e
    rw [addr_add]
    obtain ⟨⟨x, y⟩, hk⟩ := at_lt (l := es) (n := es.length) rfl (k := j / 2) (by omega)
    obtain ⟨c0, c1⟩ := cells2_at hk
    obtain ⟨d0, d1⟩ := h4 _ x y hk
    rcases (show j = j / 2 * 2 ∨ j = j / 2 * 2 + 1 by omega) with hj | hj
    · rw [hj, c0] at hu
      injection hu with hu
      subst hu
      rw [hj]; exact d0
    · rw [hj, c1] at hu
      injection hu with hu
      subst hu
      rw [hj, ← Nat.add_assoc]; exact d1
theorem srcAt_ints {w : World} {v : Value} {l : List Int} (h : IntsAt w v l) : ∃ A n c, v = .slice A n c ∧ n = l.length ∧ SrcAt w A n 1 (l.map (Value.int .i64)) := by
  obtain ⟨A, cap, b, off, rfl, h1, h2, h3, h4⟩ := h
  refine ⟨A, _, cap, rfl, rfl, by simp, fun hA => ?_, fun ad hA j u hu => ?_⟩
  · rcases Nat.eq_zero_or_pos l.length with h0 | h0
    · exact h0
    · rw [h3 h0] at hA; cases hA
  · rw [List.getElem?_map] at hu
    obtain ⟨x, hx, rfl⟩ := Option.map_eq_some_iff.1 hu
    have e := h3 (by have := (List.getElem?_eq_some_iff.1 hx).1; omega)
    rw [hA] at e
    injection e with e
    subst e
    rw [addr_add]
    exact h4 j x hx
section
variable {P : Program}
theorem run_append_rd {w : World} (base : Nat) (t ty e : TypeId) (i : TypeInfo) (z : Value) (size bytes : Nat) (ht : P.underlying t = some (.slice e)) (hi : P.info? e = some i) (hz : i.zero = some z)
    (hsize : i.size = size) (hby : i.bytes = bytes) (hzs : z.cells.size = size) (hsz : 0 < size) (v : Value) (n : Nat) (xs : List Value) (hown : w.ownsRow base e size v n xs)
    (A : Option Addr) (m c : Nat) (news : List Value) (hr : SrcAt w A m size news) (h1 : ∀ u ∈ news, u.oneCell' = true) (h63 : n + m ≤ maxLen) (hbytes : (n + m) * bytes ≤ 140737488355328) (hbase : base ≤ w.heap.size) :
    ∃ v' w', (Builtin.append_ #[t, t] ty #[v, .slice A m c]).run P w = .ok v' w' ∧ w'.ownsRow base e size v' (n + m) (xs ++ news) ∧ w.grownBy w' v.ownBlock ∧ (v'.ownBlock = v.ownBlock ∨ v'.ownBlock = some w.heap.size) := by
  cases A with
  | some ad =>
    obtain ⟨v', w', hrun, h2, h3, _, h5⟩ := run_append_own_at (P := P) w base t ty e i z size bytes ht hi hz hsize hby hzs hsz v n xs hown ad m c news hr.1 (hr.2.2 ad rfl) h1 h63 hbytes hbase
    exact ⟨v', w', hrun, h2, h3, h5⟩
  | none =>
    obtain rfl := hr.2.1 rfl
    have hn : news = [] := List.eq_nil_of_length_eq_zero (by simpa using hr.1)
    subst hn
    refine ⟨v, w, ?_, by simpa using hown, World.grownBy.refl w _, .inl rfl⟩
    rcases hown.2 with ⟨rfl, rfl⟩ | ⟨g, cap, cur, rfl, _, _, hnc, _⟩ <;> simp [Builtin.append_, run_underlying ht, sizeOf, typeInfo, Builtin.lenOf, Builtin.firstCells, *, storeCells]
theorem wp_append_rd {w : World} {o : Oper} {a : Act} {K : Act → World → Prop} {Q : Exit → Act → World → Prop} (s x : Operand) (t : TypeId)
    (ho : o.op = .call { callee := .builtin .append, args := #[s, x], argTypes := #[t, t] })
    (base : Nat) (e : TypeId) (i : TypeInfo) (z : Value) (size bytes : Nat) (ht : P.underlying t = some (.slice e)) (hi : P.info? e = some i) (hz : i.zero = some z)
    (hsize : i.size = size) (hby : i.bytes = bytes) (hzs : z.cells.size = size) (hsz : 0 < size) (v : Value) (n : Nat) (xs : List Value) (hs : a.eval s = v) (hown : w.ownsRow base e size v n xs)
    (A : Option Addr) (m c : Nat) (news : List Value) (hx : a.eval x = .slice A m c) (hr : SrcAt w A m size news) (h1 : ∀ u ∈ news, u.oneCell' = true) (h63 : n + m ≤ maxLen) (hbytes : (n + m) * bytes ≤ 140737488355328) (hbase : base ≤ w.heap.size)
    (h : ∀ v' w', w'.ownsRow base e size v' (n + m) (xs ++ news) → w.grownBy w' v.ownBlock → (v'.ownBlock = v.ownBlock ∨ v'.ownBlock = some w.heap.size) → K (a.put o.dst v') w') : o.wp P a w K Q := by
  obtain ⟨v', w', hrun, h2, h3, h4⟩ := run_append_rd (P := P) (w := w) base t o.type e i z size bytes ht hi hz hsize hby hzs hsz v n xs hown A m c news hr h1 h63 hbytes hbase
  unfold Oper.wp execOp
  simp only [ho, resolve, invoke, builtin, Sem.run_bind, Sem.run_pure, Result.andThen_ok, List.map_toArray, List.map_cons, List.map_nil, hs, hx, hrun]
  exact h v' w' h2 h3 h4
theorem wpList_append_rd {w : World} {ops : Array Oper} {rest : List Oper} {o : Oper} {a : Act} {Q : Exit → Act → World → Prop} (hgd : o.guard = none) (s x : Operand) (t : TypeId)
    (ho : o.op = .call { callee := .builtin .append, args := #[s, x], argTypes := #[t, t] })
    (base : Nat) (e : TypeId) (i : TypeInfo) (z : Value) (size bytes : Nat) (ht : P.underlying t = some (.slice e)) (hi : P.info? e = some i) (hz : i.zero = some z)
    (hsize : i.size = size) (hby : i.bytes = bytes) (hzs : z.cells.size = size) (hsz : 0 < size) (v : Value) (n : Nat) (xs : List Value) (hs : a.eval s = v) (hown : w.ownsRow base e size v n xs)
    (A : Option Addr) (m c : Nat) (news : List Value) (hx : a.eval x = .slice A m c) (hr : SrcAt w A m size news) (h1 : ∀ u ∈ news, u.oneCell' = true) (h63 : n + m ≤ maxLen) (hbytes : (n + m) * bytes ≤ 140737488355328) (hbase : base ≤ w.heap.size)
    (h : ∀ v' w', w'.ownsRow base e size v' (n + m) (xs ++ news) → w.grownBy w' v.ownBlock → (v'.ownBlock = v.ownBlock ∨ v'.ownBlock = some w.heap.size) → wpList P ops Q rest (a.put o.dst v') w') : wpList P ops Q (o :: rest) a w :=
  wpList_plain hgd fun _ hK => wp_append_rd s x t ho base e i z size bytes ht hi hz hsize hby hzs hsz v n xs hs hown A m c news hx hr h1 h63 hbytes hbase fun v' w' h2 h3 h4 => hK _ _ (h v' w' h2 h3 h4)
theorem step_append_rd {w : World} {ops : Array Oper} {o : Oper} {a : Act} {K : Act → World → Prop} {Q : Exit → Act → World → Prop} {E : Prop} (hgd : o.guard = none) (s x : Operand) (t : TypeId)
    (ho : o.op = .call { callee := .builtin .append, args := #[s, x], argTypes := #[t, t] })
    (base : Nat) (e : TypeId) (i : TypeInfo) (z : Value) (size bytes : Nat) (ht : P.underlying t = some (.slice e)) (hi : P.info? e = some i) (hz : i.zero = some z)
    (hsize : i.size = size) (hby : i.bytes = bytes) (hzs : z.cells.size = size) (hsz : 0 < size) (v : Value) (n : Nat) (xs : List Value) (hs : a.eval s = v) (hown : w.ownsRow base e size v n xs)
    (A : Option Addr) (m c : Nat) (news : List Value) (hx : a.eval x = .slice A m c) (hr : SrcAt w A m size news) (h1 : ∀ u ∈ news, u.oneCell' = true) (h63 : n + m ≤ maxLen) (hbytes : (n + m) * bytes ≤ 140737488355328) (hbase : base ≤ w.heap.size)
    (h : ∀ v' w', w'.ownsRow base e size v' (n + m) (xs ++ news) → w.grownBy w' v.ownBlock → (v'.ownBlock = v.ownBlock ∨ v'.ownBlock = some w.heap.size) → K (a.put o.dst v') w') :
    if Region.wanted o (yielded ops a.tmps) = true then Oper.wp P o a w K Q else E := by
  rw [if_pos (by simp [Region.wanted, hgd])]
  exact wp_append_rd s x t ho base e i z size bytes ht hi hz hsize hby hzs hsz v n xs hs hown A m c news hx hr h1 h63 hbytes hbase h
theorem cut_tail {w : World} {t e : TypeId} {i : TypeInfo} {size : Nat} (ht : P.underlying t = some (.slice e)) (hi : P.info? e = some i) (hs : i.size = size) {A : Option Addr} {n c : Nat} {xs : List Value} (h : SrcAt w A n size xs) (hnc : n ≤ c) (k : Nat) (hk : k ≤ n) :
    ∃ A' c', (∀ W : World, (Instr.slice t (.slice A n c) (some (.int .i64 (k : Int))) none none).run P W = .ok (.slice A' (n - k) c') W) ∧ SrcAt w A' (n - k) size (xs.drop (k * size)) := by
  have he : P.elem t = e := by simp [Program.elem, ht]
  refine ⟨if c = k then A else A.map (·.add (k * size)), c - k, fun W => ?_, by rw [List.length_drop, h.1, Nat.sub_mul], fun hA => ?_, fun ad hA j u hu => ?_⟩
  · rw [run_slice_l (P := P) (w := W) t A n c (by rw [he]; exact ht) .i64 (k : Int) (by omega) (by omega), he]
    simp [sizeOf, typeInfo, hi, sliced, hs, Result.andThen]
  · by_cases hc : c = k
    · omega
    · rw [if_neg hc] at hA
      have := h.2.1 (by simpa using hA)
      omega
  · have hl : j + k * size < n * size := by
      have h1 := (List.getElem?_eq_some_iff.1 hu).1
      rw [List.length_drop, h.1] at h1
      omega
    have hkn : k < n := by
      rcases Nat.lt_or_ge k n with h1 | h1
      · exact h1
      · have : n * size ≤ k * size := Nat.mul_le_mul_right _ h1
        omega
    rw [if_neg (by omega)] at hA
    obtain ⟨a0, ha0, rfl⟩ := Option.map_eq_some_iff.1 hA
    rw [List.getElem?_drop] at hu
    have := h.2.2 a0 ha0 _ u hu
    have e2 : (a0.add (k * size)).add j = a0.add (k * size + j) := by
      unfold Addr.add
      by_cases h1 : k * size = 0 <;> by_cases h2 : j = 0 <;> simp [h1, h2, Nat.add_assoc]
    rw [e2]
    exact this
theorem cut_head {w : World} {t e : TypeId} {i : TypeInfo} {size : Nat} (ht : P.underlying t = some (.slice e)) (hi : P.info? e = some i) (hs : i.size = size) {A : Option Addr} {n c : Nat} {xs : List Value} (h : SrcAt w A n size xs) (hnc : n ≤ c) (k : Nat) (hk : k ≤ n) :
    ∃ c', (∀ W : World, (Instr.slice t (.slice A n c) none (some (.int .i64 (k : Int))) none).run P W = .ok (.slice A k c') W) ∧ SrcAt w A k size (xs.take (k * size)) := by
  have he : P.elem t = e := by simp [Program.elem, ht]
  refine ⟨c, fun W => ?_, by rw [List.length_take, h.1]; exact Nat.min_eq_left (Nat.mul_le_mul_right _ hk), fun hA => by have := h.2.1 hA; omega, fun ad hA j u hu => ?_⟩
  · rw [run_slice_h (P := P) (w := W) t A n c (by rw [he]; exact ht) .i64 (k : Int) (by omega) (by omega), he]
    simp [sizeOf, typeInfo, hi, sliced, hs, Result.andThen]
    cases A <;> simp [Addr.add]
  · rw [List.getElem?_take] at hu
    split at hu
    · exact h.2.2 ad hA j u hu
    · cases hu
end
end Go.Proofs.Ytnnkdoomjkccgaa
