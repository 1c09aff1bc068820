/- From the row's reading of an argument to what the walks ask of it. -/
import Derived.Test.YtnnkdoomjkccgaaPre
import Derived.ProofKit
import Derived.OpenShut
import Derived.Lib.SmallJoins
import Derived.Deep.Slices
import Derived.Deep.Strs
namespace Go.Proofs.Ytnnkdoomjkccgaa
set_option linter.unusedSimpArgs false
set_option linter.unusedVariables false
open Go.ChangeShapes Go.WideShapes Go.ChangeAt Go.RowKit Go.Joins Go.Deep
section
variable {H : Type} {enc : TypeId × Value → H} {P : Program} {w : World} {base b0 : Nat} {held : Bool} {r : Reach} {v : Value} {d : DataW H} {p : List MemPlace}
theorem codeAt_of_trod {T E : TypeId} (hT : P.underlying T = some (.slice E)) (hE : P.underlying E = some (.int .u8)) (hC : P.cellsOf E = 1)
    (hv : Value.okWide P w r b0 T v) (h : DataW.Trod enc P w base (fun _ => true) held T v d p) : CodeAt w v := by
  obtain ⟨a0, len, cap, rfl⟩ := okWide_slice hT hv
  obtain ⟨fuel, hf⟩ := h
  rcases open_ints hT hE hC hf with ⟨hcs, _⟩ | ⟨x, l, c, zs, hcs, _, hl, hm, hz, _, hcell, hwz⟩
  · simp [Value.cells] at hcs
    obtain ⟨rfl, rfl, rfl⟩ := hcs
    exact codeAt_nil w
  · simp [Value.cells] at hcs
    obtain ⟨rfl, rfl, rfl⟩ := hcs
    exact codeAt_of_row hl hm (by simpa using hz) hcell hwz
theorem adj_of_trod {T : TypeId} {f0 f1 : Field} (hs : P.underlying T = some (.struct #[f0, f1])) (hone : oneCellFields P #[f0, f1] = true) (hC : P.cellsOf T = 2) (hI : P.underlying f0.type = some (.int .i64)) (hI1 : P.underlying f1.type = some (.int .i64))
    (hv : Value.okWide P w r b0 T v) (h : DataW.Trod enc P w base (fun _ => true) held T v d p) : ∃ s a : Int, v = .agg #[.int .i64 s, .int .i64 a] := by
  obtain ⟨c0, c1, y0, y1, m, rfl, _, _, hy0, hy1⟩ := open_agg2 hs hone hC hv h
  obtain ⟨a0, e0, _, _⟩ := DataW.trod_int hI hy0
  obtain ⟨a1, e1, _, _⟩ := DataW.trod_int hI1 hy1
  simp at e0 e1
  subst e0 e1
  exact ⟨_, _, rfl⟩
/-- A list out of its elements. -/
theorem list_of {α : Type} {p : Nat → α → Prop} : ∀ (n : Nat), (∀ i, i < n → ∃ x, p i x) → ∃ l : List α, l.length = n ∧ ∀ i x, l[i]? = some x → p i x
  | 0, _ => ⟨[], rfl, fun i x h => by simp at h⟩
  | n + 1, h => by
    obtain ⟨l, hl, hp⟩ := list_of n (fun i hi => h i (by omega))
    obtain ⟨x, hx⟩ := h n (by omega)
    refine ⟨l ++ [x], by simp [hl], fun i y hy => ?_⟩
    rcases Nat.lt_or_ge i n with h1 | h1
    · rw [List.getElem?_append_left (by omega)] at hy
      exact hp i y hy
    · rw [List.getElem?_append_right (by omega)] at hy
      have e : i - l.length = 0 := by
        have := (List.getElem?_eq_some_iff.1 hy).1
        simp at this; omega
      rw [e] at hy
      simp at hy
      subst hy
      obtain rfl : i = n := by omega
      exact hx
theorem slice_elems {T E : TypeId} {k fuel : Nat} {x : DataW H × List MemPlace} (hT : P.underlying T = some (.slice E)) (hC : P.cellsOf E = k) (hk : 0 < k) (h : DataW.trod enc P w base (fun _ => true) held fuel T [v] = some x) :
    ∃ a len cap b off, v = .slice a len cap ∧ len ≤ cap ∧ cap ≤ maxLen ∧ (0 < len → a = some ⟨b, off, none⟩) ∧
      ∀ i, i < len → ∃ n cs y, cs.length = k ∧ DataW.trod enc P w base (fun _ => true) held n E cs = some y ∧ ∀ j u, cs[j]? = some u → w.cell? ⟨b, off + i * k + j, none⟩ = some u := by
  rcases open_slice hT h with ⟨hv, _⟩ | ⟨a, len, cap, m, n, D, Pl, hv, hb, hl, hm, hmm, hx, hi⟩
  · simp at hv
    exact ⟨none, 0, 0, 0, 0, hv, Nat.le_refl _, by unfold maxLen; omega, fun h => by omega, fun i h => by omega⟩
  · simp at hv
    simp at hmm
    subst hmm
    obtain ⟨b, off, spot⟩ := a
    have hspot : 0 < len → spot = none := by
      intro h0
      obtain ⟨cs, h1, h2⟩ := hi 0 (by omega)
      obtain ⟨_, hlen, hc⟩ := World.cells?_some h1
      rw [hC] at hlen hc
      have := hc 0 (by omega)
      rw [List.getElem?_eq_getElem (by omega)] at this
      simpa [Addr.add] using World.cell?_spot this
    refine ⟨_, len, m, b, off, hv, hl, hm, fun h0 => by rw [hspot h0], fun i hil => ?_⟩
    obtain ⟨cs, h1, h2⟩ := hi i (by omega)
    obtain ⟨_, hlen, hc⟩ := World.cells?_some h1
    rw [hC] at hlen hc
    refine ⟨n, cs, _, hlen, h2, fun j u hu => ?_⟩
    have hj : j < k := by have := (List.getElem?_eq_some_iff.1 hu).1; omega
    have := (hc j hj).trans hu
    have hs := hspot (by omega)
    subst hs
    rw [add_add] at this
    have e : (⟨b, off, none⟩ : Addr).add (i * k + j) = ⟨b, off + i * k + j, none⟩ := by unfold Addr.add; split <;> simp_all [Nat.add_assoc]
    rwa [e] at this
theorem ints_of_elems {T E : TypeId} {fuel : Nat} {x : DataW H × List MemPlace} (hT : P.underlying T = some (.slice E)) (hE : P.underlying E = some (.int .i64)) (hC : P.cellsOf E = 1) (h : DataW.trod enc P w base (fun _ => true) held fuel T [v] = some x) : ∃ xs, IntsAt w v xs := by
  obtain ⟨a, len, cap, b, off, rfl, hl, hm, ha, hi⟩ := slice_elems hT hC (by omega) h
  obtain ⟨l, hll, hp⟩ := list_of (p := fun i (x : Int) => w.cell? ⟨b, off + i, none⟩ = some (.int .i64 x)) len (fun i hil => by
    obtain ⟨n, cs, y, hlen, h1, h2⟩ := hi i hil
    obtain ⟨x, hx, _, _⟩ := DataW.trod_int hE h1
    subst hx
    have := h2 0 _ rfl
    exact ⟨x, by simpa using this⟩)
  subst hll
  exact ⟨l, a, cap, b, off, rfl, hl, hm, ha, hp⟩
theorem pairs_of_elems {T E : TypeId} {f0 f1 : Field} {fuel : Nat} {x : DataW H × List MemPlace} (hT : P.underlying T = some (.slice E)) (hE : P.underlying E = some (.struct #[f0, f1])) (hone : oneCellFields P #[f0, f1] = true) (hC : P.cellsOf E = 2)
    (hI : P.underlying f0.type = some (.int .i64)) (hI1 : P.underlying f1.type = some (.int .i64)) (h : DataW.trod enc P w base (fun _ => true) held fuel T [v] = some x) : ∃ es, PairsAt w v es := by
  obtain ⟨a, len, cap, b, off, rfl, hl, hm, ha, hi⟩ := slice_elems hT hC (by omega) h
  obtain ⟨l, hll, hp⟩ := list_of (p := fun i (x : Int × Int) => w.cell? ⟨b, off + i * 2, none⟩ = some (.int .i64 x.1) ∧ w.cell? ⟨b, off + i * 2 + 1, none⟩ = some (.int .i64 x.2)) len (fun i hil => by
    obtain ⟨n, cs, y, hlen, h1, h2⟩ := hi i hil
    obtain ⟨y0, y1, n', hx, _, h3, h4⟩ := trod_struct2 hE h1
    obtain ⟨o0, k0⟩ := hone_of hone 0 f0 rfl
    obtain ⟨o1, k1⟩ := hone_of hone 1 f1 rfl
    match cs, hlen with
    | [c0, c1], _ =>
      rw [o0, k0] at h3; rw [o1, k1] at h4
      obtain ⟨x0, e0, _, _⟩ := DataW.trod_int hI h3
      obtain ⟨x1, e1, _, _⟩ := DataW.trod_int hI1 h4
      simp at e0 e1
      subst e0 e1
      exact ⟨(x0, x1), by simpa using h2 0 _ rfl, by simpa using h2 1 _ rfl⟩)
  subst hll
  exact ⟨l, a, cap, b, off, rfl, hl, hm, ha, fun k x y hk => hp k (x, y) hk⟩
theorem triples_of_elems {T E : TypeId} {f0 f1 f2 : Field} {fuel : Nat} {x : DataW H × List MemPlace} (hT : P.underlying T = some (.slice E)) (hE : P.underlying E = some (.struct #[f0, f1, f2])) (hone : oneCellFields P #[f0, f1, f2] = true) (hC : P.cellsOf E = 3)
    (hI : P.underlying f0.type = some (.int .i64)) (hI1 : P.underlying f1.type = some (.int .i64)) (hI2 : P.underlying f2.type = some (.int .i64)) (h : DataW.trod enc P w base (fun _ => true) held fuel T [v] = some x) : ∃ es, TriplesAt w v es := by
  obtain ⟨a, len, cap, b, off, rfl, hl, hm, ha, hi⟩ := slice_elems hT hC (by omega) h
  obtain ⟨l, hll, hp⟩ := list_of (p := fun i (x : Int × Int × Int) => w.cell? ⟨b, off + i * 3, none⟩ = some (.int .i64 x.1) ∧ w.cell? ⟨b, off + i * 3 + 1, none⟩ = some (.int .i64 x.2.1) ∧ w.cell? ⟨b, off + i * 3 + 2, none⟩ = some (.int .i64 x.2.2)) len (fun i hil => by
    obtain ⟨n, cs, y, hlen, h1, h2⟩ := hi i hil
    obtain ⟨y0, y1, y2, n', hx, _, h3, h4, h5⟩ := trod_struct3 hE h1
    obtain ⟨o0, k0⟩ := hone_of hone 0 f0 rfl
    obtain ⟨o1, k1⟩ := hone_of hone 1 f1 rfl
    obtain ⟨o2, k2⟩ := hone_of hone 2 f2 rfl
    match cs, hlen with
    | [c0, c1, c2], _ =>
      rw [o0, k0] at h3; rw [o1, k1] at h4; rw [o2, k2] at h5
      obtain ⟨x0, e0, _, _⟩ := DataW.trod_int hI h3
      obtain ⟨x1, e1, _, _⟩ := DataW.trod_int hI1 h4
      obtain ⟨x2, e2, _, _⟩ := DataW.trod_int hI2 h5
      simp at e0 e1 e2
      subst e0 e1 e2
      exact ⟨(x0, x1, x2), by simpa using h2 0 _ rfl, by simpa using h2 1 _ rfl, by simpa using h2 2 _ rfl⟩)
  subst hll
  exact ⟨l, a, cap, b, off, rfl, hl, hm, ha, fun k x y z hk => hp k (x, y, z) hk⟩
theorem lsas_of_elems {T L S E : TypeId} {f0 f1 f2 g0 g1 : Field} {fuel : Nat} {x : DataW H × List MemPlace} (hT : P.underlying T = some (.slice L)) (hL : P.underlying L = some (.struct #[f0, f1, f2])) (hone : oneCellFields P #[f0, f1, f2] = true) (hC : P.cellsOf L = 3)
    (hI : P.underlying f0.type = some (.int .i64)) (hI1 : P.underlying f1.type = some (.int .i64)) (hS : P.underlying f2.type = some (.slice E)) (hE : P.underlying E = some (.struct #[g0, g1])) (hone2 : oneCellFields P #[g0, g1] = true) (hC2 : P.cellsOf E = 2)
    (hG : P.underlying g0.type = some (.int .i64)) (hG1 : P.underlying g1.type = some (.int .i64)) (h : DataW.trod enc P w base (fun _ => true) held fuel T [v] = some x) : ∃ db, LsasAt w v db := by
  obtain ⟨a, len, cap, b, off, rfl, hl, hm, ha, hi⟩ := slice_elems hT hC (by omega) h
  obtain ⟨l, hll, hp⟩ := list_of (p := fun i (x : LsaD) => ∃ u, w.cell? ⟨b, off + i * 3, none⟩ = some (.int .i64 x.1) ∧ w.cell? ⟨b, off + i * 3 + 1, none⟩ = some (.int .i64 x.2.1) ∧ w.cell? ⟨b, off + i * 3 + 2, none⟩ = some u ∧ PairsAt w u x.2.2) len (fun i hil => by
    obtain ⟨n, cs, y, hlen, h1, h2⟩ := hi i hil
    obtain ⟨y0, y1, y2, n', hx, _, h3, h4, h5⟩ := trod_struct3 hL h1
    obtain ⟨o0, k0⟩ := hone_of hone 0 f0 rfl
    obtain ⟨o1, k1⟩ := hone_of hone 1 f1 rfl
    obtain ⟨o2, k2⟩ := hone_of hone 2 f2 rfl
    match cs, hlen with
    | [c0, c1, c2], _ =>
      rw [o0, k0] at h3; rw [o1, k1] at h4; rw [o2, k2] at h5
      obtain ⟨x0, e0, _, _⟩ := DataW.trod_int hI h3
      obtain ⟨x1, e1, _, _⟩ := DataW.trod_int hI1 h4
      obtain ⟨es, hes⟩ := pairs_of_elems (v := c2) hS hE hone2 hC2 hG hG1 (by simpa using h5)
      simp at e0 e1
      subst e0 e1
      exact ⟨(x0, x1, es), c2, by simpa using h2 0 _ rfl, by simpa using h2 1 _ rfl, by simpa using h2 2 _ rfl, hes⟩)
  subst hll
  exact ⟨l, a, cap, b, off, rfl, hl, hm, ha, fun k o s es hk => hp k (o, s, es) hk⟩

/-! As the frame of a statement asks for them. -/
theorem one_cells {T E : TypeId} (hT : P.underlying T = some (.slice E)) (hv : Value.okWide P w r b0 T v) (h : DataW.Trod enc P w base (fun _ => true) held T v d p) : ∃ fuel, DataW.trod enc P w base (fun _ => true) held fuel T [v] = some (d, p) := by
  obtain ⟨a, n, c, rfl⟩ := okWide_slice hT hv
  obtain ⟨fuel, hf⟩ := h
  exact ⟨fuel, by simpa [Value.cells] using hf⟩
theorem intsAt_of_trod {T E : TypeId} (hT : P.underlying T = some (.slice E)) (hE : P.underlying E = some (.int .i64)) (hC : P.cellsOf E = 1) (hv : Value.okWide P w r b0 T v) (h : DataW.Trod enc P w base (fun _ => true) held T v d p) : ∃ xs, IntsAt w v xs := by
  obtain ⟨fuel, hf⟩ := one_cells hT hv h
  exact ints_of_elems hT hE hC hf
theorem pairsAt_of_trod {T E : TypeId} {f0 f1 : Field} (hT : P.underlying T = some (.slice E)) (hE : P.underlying E = some (.struct #[f0, f1])) (hone : oneCellFields P #[f0, f1] = true) (hC : P.cellsOf E = 2)
    (hI : P.underlying f0.type = some (.int .i64)) (hI1 : P.underlying f1.type = some (.int .i64)) (hv : Value.okWide P w r b0 T v) (h : DataW.Trod enc P w base (fun _ => true) held T v d p) : ∃ xs, PairsAt w v xs := by
  obtain ⟨fuel, hf⟩ := one_cells hT hv h
  exact pairs_of_elems hT hE hone hC hI hI1 hf
theorem lsas_of_trod {T L E : TypeId} {f0 f1 f2 g0 g1 : Field} (hT : P.underlying T = some (.slice L)) (hL : P.underlying L = some (.struct #[f0, f1, f2])) (hone : oneCellFields P #[f0, f1, f2] = true) (hC : P.cellsOf L = 3)
    (hI : P.underlying f0.type = some (.int .i64)) (hI1 : P.underlying f1.type = some (.int .i64)) (hS : P.underlying f2.type = some (.slice E)) (hE : P.underlying E = some (.struct #[g0, g1])) (hone2 : oneCellFields P #[g0, g1] = true) (hC2 : P.cellsOf E = 2)
    (hG : P.underlying g0.type = some (.int .i64)) (hG1 : P.underlying g1.type = some (.int .i64)) (hv : Value.okWide P w r b0 T v) (h : DataW.Trod enc P w base (fun _ => true) held T v d p) : ∃ db, LsasAt w v db := by
  obtain ⟨fuel, hf⟩ := one_cells hT hv h
  exact lsas_of_elems (S := 0) hT hL hone hC hI hI1 hS hE hone2 hC2 hG hG1 hf
theorem lsa_of_trod {L E : TypeId} {f0 f1 f2 g0 g1 : Field} (hL : P.underlying L = some (.struct #[f0, f1, f2])) (hone : oneCellFields P #[f0, f1, f2] = true) (hC : P.cellsOf L = 3)
    (hI : P.underlying f0.type = some (.int .i64)) (hI1 : P.underlying f1.type = some (.int .i64)) (hS : P.underlying f2.type = some (.slice E)) (hE : P.underlying E = some (.struct #[g0, g1])) (hone2 : oneCellFields P #[g0, g1] = true) (hC2 : P.cellsOf E = 2)
    (hG : P.underlying g0.type = some (.int .i64)) (hG1 : P.underlying g1.type = some (.int .i64)) (hv : Value.okWide P w r b0 L v) (h : DataW.Trod enc P w base (fun _ => true) held L v d p) : ∃ (o s : Int) (u : Value) (es : List (Int × Int)), v = .agg #[.int .i64 o, .int .i64 s, u] ∧ PairsAt w u es := by
  obtain ⟨c0, c1, c2, y0, y1, y2, m, rfl, _, _, hy0, hy1, hy2⟩ := open_agg3 hL hone hC hv h
  obtain ⟨a0, e0, _, _⟩ := DataW.trod_int hI hy0
  obtain ⟨a1, e1, _, _⟩ := DataW.trod_int hI1 hy1
  obtain ⟨es, hes⟩ := pairs_of_elems (v := c2) hS hE hone2 hC2 hG hG1 hy2
  simp at e0 e1
  subst e0 e1
  exact ⟨_, _, _, es, rfl, hes⟩
theorem graph_of_trod {G K : TypeId} {f0 f1 g0 g1 g2 : Field} (hL : P.underlying G = some (.struct #[f0, f1])) (hone : oneCellFields P #[f0, f1] = true) (hC : P.cellsOf G = 2)
    (hI : P.underlying f0.type = some (.int .i64)) (hS : P.underlying f1.type = some (.slice K)) (hE : P.underlying K = some (.struct #[g0, g1, g2])) (hone2 : oneCellFields P #[g0, g1, g2] = true) (hC2 : P.cellsOf K = 3)
    (hG : P.underlying g0.type = some (.int .i64)) (hG1 : P.underlying g1.type = some (.int .i64)) (hG2 : P.underlying g2.type = some (.int .i64)) (hv : Value.okWide P w r b0 G v) (h : DataW.Trod enc P w base (fun _ => true) held G v d p) : ∃ (n : Int) (u : Value) (ls : List (Int × Int × Int)), v = .agg #[.int .i64 n, u] ∧ TriplesAt w u ls := by
  obtain ⟨c0, c1, y0, y1, m, rfl, _, _, hy0, hy1⟩ := open_agg2 hL hone hC hv h
  obtain ⟨a0, e0, _, _⟩ := DataW.trod_int hI hy0
  obtain ⟨ls, hls⟩ := triples_of_elems (v := c1) hS hE hone2 hC2 hG hG1 hG2 hy1
  simp at e0
  subst e0
  exact ⟨_, _, ls, rfl, hls⟩
end
end Go.Proofs.Ytnnkdoomjkccgaa
