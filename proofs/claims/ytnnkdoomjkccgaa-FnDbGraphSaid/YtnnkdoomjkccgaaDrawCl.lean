/- The draw of announcements of a graph: l91Close: some few announcements in new memory (mkclose.py). -/
import Derived.Test.YtnnkdoomjkccgaaDrawDb
import Derived.Test.YtnnkdoomjkccgaaDrawGS
import Derived.Test.YtnnkdoomjkccgaaLsO
import Derived.Deep.DeepCutAuto
namespace Go.Proofs.Ytnnkdoomjkccgaa
set_option linter.unusedSimpArgs false
set_option linter.unusedVariables false
open Go.RowKit

theorem tri_only {w w' : World} {v : Value} {ls : List (Int × Int × Int)} {B : Nat} (h : TriplesAt w v ls) (hg : w.grownBy w' (some B)) (hB : v.ownBlock ≠ some B) : TriplesAt w' v ls := by
  obtain ⟨a, cap, b, off, rfl, h1, h2, h3, h4⟩ := h
  refine ⟨a, cap, b, off, rfl, h1, h2, h3, fun k x y z hk => ?_⟩
  obtain ⟨c0, c1, c2⟩ := h4 k x y z hk
  have hl := (List.getElem?_eq_some_iff.1 hk).1
  have e := h3 (by omega)
  subst e
  have hne : (some b : Option Nat) ≠ some B := fun e => hB (by simpa [Value.ownBlock] using e)
  have hk : w'.heap[b]? = w.heap[b]? := hg.block b (cell_lt c0) (fun e => hne e)
  exact ⟨(World.cell?_of_block (w := w) hk).trans c0, (World.cell?_of_block (w := w) hk).trans c1, (World.cell?_of_block (w := w) hk).trans c2⟩
theorem cells2_set1 : ∀ {es : List (Int × Int)} {k : Nat} {x y : Int}, es[k]? = some (x, y) → ∀ z, (cells2 es).set (k * 2 + 1) (.int .i64 z) = cells2 (es.set k (x, z))
  | [], k, x, y, h, z => by simp at h
  | (x', y') :: es, 0, x, y, h, z => by
    simp at h
    obtain ⟨rfl, rfl⟩ := h
    rfl
  | (x', y') :: es, k + 1, x, y, h, z => by
    have e : (k + 1) * 2 + 1 = (k * 2 + 1) + 1 + 1 := by omega
    have ih := cells2_set1 (es := es) (k := k) (x := x) (y := y) (by simpa using h) z
    have c : ∀ l : List (Int × Int), cells2 ((x', y') :: l) = .int .i64 x' :: .int .i64 y' :: cells2 l := fun l => rfl
    rw [e, List.set_cons_succ, c, c, List.set_cons_succ, List.set_cons_succ, ih]
/-- Announcements are drawn: the reader, the row so far, the graph's box. -/
structure ClS (w : World) (B : Nat) (n : Int) (gv : Value) (m : Int) (ov : Value) (db : List LsaD) (us : List Value) (W : World) : Prop where
  rd : RdLe W B m
  row : RowLs W (w.heap.size + 1) ov db us
  box : Box W w.heap.size #[.int .i64 n, gv] 26
  gr : w.grownBy W (some B)
/-- .. and one more is made, its ends in a row of their own, not yet appended. -/
structure ClT (w : World) (B : Nat) (n : Int) (gv : Value) (m : Int) (ov : Value) (db : List LsaD) (us : List Value) (h1 h0 : Nat) (ua : Value) (es : List (Int × Int)) (W : World) : Prop where
  rd : RdLe W B m
  row : W.ownsRow (w.heap.size + 1) 41 3 ov db.length (cellsL db us)
  ends : EndsOwn W (w.heap.size + 1) h0 43 db us
  own : OwnR W h0 W.heap.size 43 2 ua es.length (cells2 es)
  box : Box W w.heap.size #[.int .i64 n, gv] 26
  gr : w.grownBy W (some B)
  rl : ∀ g, ov.ownBlock = some g → g < h1
  lo : w.heap.size + 1 ≤ h1 ∧ h1 ≤ h0 ∧ h0 ≤ W.heap.size
section
variable {w : World} {B : Nat} {n : Int} {gv : Value} {m : Int} {ov : Value} {db : List LsaD} {us : List Value} {h1 h0 : Nat} {ua : Value} {es : List (Int × Int)} {W W' : World}
theorem ClS.only (h : ClS w B n gv m ov db us W) (hB : B < w.heap.size) (hg : W.grownBy W' (some B)) {m' : Int} (hr : RdLe W' B m') : ClS w B n gv m' ov db us W' :=
  ⟨hr, h.row.keepOnly hg (by omega), h.box.only hg (by omega), only_trans h.gr hg⟩
theorem ClS.below (h : ClS w B n gv m ov db us W) (hb : Below W.heap.size W W') : ClS w B n gv m ov db us W' :=
  ⟨rdLe_below h.rd hb, h.row.below hb, h.box.below hb h.box.lt, only_below h.gr hb⟩
theorem ClS.alloc (h : ClS w B n gv m ov db us W) (o : Obj) : ClS w B n gv m ov db us (W.alloc o) := h.below ((Below.refl _ _).alloc (Nat.le_refl _) _)
theorem ClS.drew (h : ClS w B n gv m ov db us W) : ClS w B n gv m ov db us W.drew := h.below (Below.refl _ _).drew
theorem ClS.mono (h : ClS w B n gv m ov db us W) {m' : Int} (hm : m ≤ m') : ClS w B n gv m' ov db us W := ⟨rdLe_mono h.rd hm, h.row, h.box, h.gr⟩
theorem ClS.call (h : ClS w B n gv m ov db us W) (hb : Below W.heap.size W W') (ho : OwnR W' W.heap.size W'.heap.size 43 2 ua es.length (cells2 es)) (hl : w.heap.size + 1 ≤ h1) (hw : h1 ≤ W.heap.size) (rl : ∀ g, ov.ownBlock = some g → g < h1) : ClT w B n gv m ov db us h1 W.heap.size ua es W' :=
  ⟨rdLe_below h.rd hb, ((OwnR.of h.row.1).below hb (Nat.le_refl _)).1, h.row.2.below hb (Nat.le_refl _), ho, h.box.below hb h.box.lt, only_below h.gr hb, rl, hl, hw, hb.size⟩
theorem ClT.mono (h : ClT w B n gv m ov db us h1 h0 ua es W) {m' : Int} (hm : m ≤ m') : ClT w B n gv m' ov db us h1 h0 ua es W := ⟨rdLe_mono h.rd hm, h.row, h.ends, h.own, h.box, h.gr, h.rl, h.lo⟩
theorem ClT.drewT (h : ClT w B n gv m ov db us h1 h0 ua es W) : ClT w B n gv m ov db us h1 h0 ua es W.drew := ⟨rdLe_drew h.rd, own_drew h.row, h.ends.drewN 1, h.own.drewN 1, h.box.drew, only_drew h.gr, h.rl, h.lo⟩
theorem ClT.alloc (h : ClT w B n gv m ov db us h1 h0 ua es W) (o : Obj) : ClT w B n gv m ov db us h1 h0 ua es (W.alloc o) :=
  ⟨rdLe_alloc h.rd o, h.row.alloc o, h.ends.alloc o, (h.own.alloc o).mono (Nat.le_refl _) (by simp), h.box.alloc o, only_alloc h.gr o, h.rl, h.lo.1, h.lo.2.1, by have := h.lo.2.2; simp; omega⟩
theorem ClT.endType (h : ClT w B n gv m ov db us h1 h0 ua es W) {k : Nat} {u : Value} (hu : us[k]? = some u) : ∃ (o' s' : Int) (es' : List (Int × Int)), OwnR W (w.heap.size + 1) h0 43 2 u es'.length (cells2 es') := by
  obtain ⟨⟨o', s', es'⟩, hd⟩ := at_lt (l := db) (n := db.length) rfl (k := k) (by have := h.ends.len; have := (List.getElem?_eq_some_iff.1 hu).1; omega)
  exact ⟨o', s', es', h.ends.ends k o' s' es' u hd hu⟩
theorem ClT.only (h : ClT w B n gv m ov db us h1 h0 ua es W) (hB : B < w.heap.size) (hg : W.grownBy W' (some B)) {m' : Int} (hr : RdLe W' B m') : ClT w B n gv m' ov db us h1 h0 ua es W' := by
  obtain ⟨l1, l2, l3⟩ := h.lo
  refine ⟨hr, own_only h.row hg (by omega), h.ends.block hg fun g e k u hu hk => ?_, ⟨own_only h.own.1 hg (by omega), fun g hg' => Nat.lt_of_lt_of_le (h.own.2 g hg') hg.size⟩, h.box.only hg (by omega), only_trans h.gr hg, h.rl, l1, l2, Nat.le_trans l3 hg.size⟩
  injection e with e
  subst e
  obtain ⟨_, _, _, ho⟩ := h.endType hu
  have := (ho.1.lt _ hk).1
  omega
theorem ClT.set (h : ClT w B n gv m ov db us h1 h0 ua es W) (hB : B < w.heap.size) {P : Nat} {c : Array Value} (hP : Box W P c 41) (hp : h1 ≤ P) (j : Nat) (x : Value) : ClT w B n gv m ov db us h1 h0 ua es (W.setCell ⟨P, j, none⟩ x) := by
  obtain ⟨l1, l2, l3⟩ := h.lo
  refine ⟨rdLe_setCell h.rd (by simp; omega) x, own_setOther h.row (a := ⟨P, j, none⟩) (fun e => by have := h.rl P e; omega) x, h.ends.block (grown_setCell (only_refl W (some P)) j x) fun g e k u hu => ?_, ⟨own_setOther h.own.1 (a := ⟨P, j, none⟩) (box_own_ne hP h.own.1 (by decide)) x, fun g hg' => by simpa using h.own.2 g hg'⟩, h.box.setOther (a := ⟨P, j, none⟩) (by simp; omega) x, only_setCell h.gr (p := ⟨P, j, none⟩) (.inr (by simp; omega)) x, h.rl, l1, l2, by simpa using l3⟩
  injection e with e
  subst e
  obtain ⟨_, _, _, ho⟩ := h.endType hu
  exact box_own_ne hP ho.1 (by decide)
theorem ClT.put {b c : Nat} (h : ClT w B n gv m ov db us h1 h0 (.slice (some ⟨b, 0, none⟩) es.length c) es W) (hB : B < w.heap.size) {i : Nat} {x y : Int} (hx : es[i]? = some (x, y)) (z : Int) : ClT w B n gv m ov db us h1 h0 (.slice (some ⟨b, 0, none⟩) es.length c) (es.set i (x, z)) (W.setCell ⟨b, i * 2 + 1, none⟩ (.int .i64 z)) := by
  obtain ⟨l1, l2, l3⟩ := h.lo
  have hb := (h.own.1.lt b rfl).1
  refine ⟨rdLe_setCell h.rd (by simp; omega) _, own_setOther h.row (a := ⟨b, i * 2 + 1, none⟩) (fun e => own_own_ne h.row h.own.1 (by decide) b e rfl) _, h.ends.below ((Below.refl h0 W).setCell (p := ⟨b, i * 2 + 1, none⟩) hb _) (Nat.le_refl _), ?_, h.box.setOther (a := ⟨b, i * 2 + 1, none⟩) (by simp; omega) _, only_setCell h.gr (p := ⟨b, i * 2 + 1, none⟩) (.inr (by simp; omega)) _, h.rl, l1, l2, by simpa using l3⟩
  have hs := (h.own.1.stored (i * 2 + 1) (.int .i64 z)).1
  rw [cells2_set1 hx] at hs
  exact ⟨by rw [List.length_set]; exact hs, fun g hg' => by simpa using h.own.2 g hg'⟩
end
/-- Few announcements with few ends. -/
def FewL (db : List LsaD) (k : Nat) : Prop := db.length ≤ k ∧ ∀ (i : Nat) (d : LsaD), db[i]? = some d → d.2.2.length ≤ 8
theorem FewL.snoc {db : List LsaD} {k : Nat} (h : FewL db k) {o s : Int} {es : List (Int × Int)} (he : es.length ≤ 8) : FewL (db ++ [(o, s, es)]) (k + 1) := by
  refine ⟨by have := h.1; simp; omega, fun i d hd => ?_⟩
  rcases Nat.lt_or_ge i db.length with h1 | h1
  · rw [List.getElem?_append_left h1] at hd
    exact h.2 i d hd
  · rw [List.getElem?_append_right h1] at hd
    have hl := (List.getElem?_eq_some_iff.1 hd).1
    simp at hl
    have e : i - db.length = 0 := by omega
    rw [e] at hd
    simp at hd
    subst hd
    exact he
theorem FewL.mono {db : List LsaD} {k k' : Nat} (h : FewL db k) (hk : k ≤ k') : FewL db k' := ⟨Nat.le_trans h.1 hk, h.2⟩
def ClosePost (w : World) (B : Nat) (m : Int) (e : Ending) (w' : World) : Prop :=
  ∃ v db us, e = .returned v ∧ OwnLs w' w.heap.size w'.heap.size 41 43 v db us ∧ FewL db 8 ∧ RdLe w' B (m + 100) ∧ w.grownBy w' (some B)
set_option maxRecDepth 100000 in
set_option maxHeartbeats 8000000 in
theorem drawClose (B : Nat) (m n : Int) (ls : List LinkD) (v : Value) (w : World) (hv : TriplesAt w v ls) (hne : v.ownBlock ≠ some B) (hn8 : n ≤ 8) (hrd : RdLe w B m) (hm : m < 1000000000) :
    Calls Try.prog 52 #[.pointer (some ⟨B, 0, none⟩), .agg #[.int .i64 n, v]] w (ClosePost w B m) := by
  have hB := rdLe_lt hrd
  have HVV := Lib.hid hv
  have HNE := Lib.hid hne
  obtain ⟨va, vm, vc, rfl⟩ := hv.form
  obtain ⟨i0, hi, hz0, hz1, hz2⟩ := info_parts infoL
  have HI := Lib.hid hi; have HZ0 := Lib.hid hz0; have HZ1 := Lib.hid hz1; have HZ2 := Lib.hid hz2
  clear hv hne hi hz0 hz1 hz2
  have hC0 : ClS w B n (.slice va vm vc) m (.slice (some ⟨w.heap.size + 1, 0, none⟩) 0 0) [] [] ((w.alloc (.cells #[.int .i64 n, .slice va vm vc] 26)).alloc (.cells #[] 41)) :=
    ⟨rdLe_alloc (rdLe_alloc hrd _) _, rowLs_new (by simp) (Nat.le_refl _), (box_new _ _ _).alloc _, only_alloc (only_alloc (only_refl w (some B)) _) _⟩
  have HC0 := Lib.hid hC0
  clear hC0 hrd
  go_enter Try.func52, Try.ntmps52
  go_wp2_with fail
  go_loopw [5, 6] (fun ov i wr => ∃ (k : Nat) (db : List LsaD) (us : List Value), k ≤ n.toNat ∧ i = .int .i64 k ∧ FewL db k ∧ ClS w B n (.slice va vm vc) (m + 5 * k) ov db us wr) (fun _ i _ => n.toNat - (intOf i).toNat)
  case atStart => exact ⟨0, [], [], Nat.zero_le _, rfl, ⟨Nat.le_refl _, fun i d hd => by simp at hd⟩, HC0.out.mono (by omega)⟩
  case round =>
    obtain ⟨k, db, us, hk, rfl, hF, hC⟩ := hrel
    clear HC0
    have HC := Lib.hid hC; have HF := Lib.hid hF
    have hdl : db.length ≤ k := hF.1
    obtain ⟨oa, oc, rfl⟩ := own_slice hC.row.1
    clear hC hF
    have hE8 : (endsN ls (k:Int) n.toNat).length ≤ 8 := by have := endsN_len ls (k:Int) n.toNat; omega
    obtain ⟨b0, b1, f0, f1, hb0⟩ := box2 HC.out.box
    by_cases hkn : (k:Int) < n
    rotate_left
    · have t0 : decide ((k:Int) < n) = false := decide_eq_false hkn
      go_wp2_with fail
      go_ret
      exact ⟨_, db, us, rfl, HC.out.row.own.mono (by omega) (Nat.le_refl _), HF.out.mono (by omega), rdLe_mono HC.out.rd (by omega), HC.out.gr⟩
    have t0 : decide ((k:Int) < n) = true := decide_eq_true hkn
    go_wp2_with fail
    apply pick_op
    · exact HC.out.rd
    · exact by omega
    intro z x1 z_0 z_1 hR hG
    replace HC := Lib.hid (HC.out.only hB hG hR)
    clear hR hG b0 b1 f0 f1 hb0
    obtain ⟨b0, b1, f0, f1, hb0⟩ := box2 HC.out.box
    by_cases hz : 0 < z
    rotate_left
    · have t1 : decide (0 < z) = false := decide_eq_false hz
      go_wp2_with fail
      go_roundw
      case rel => exact ⟨k + 1, db, us, by omega, by go_num, HF.out.mono (by omega), HC.out.mono (by omega)⟩
      case measure => simp [intOf]; omega
    have t1 : decide (0 < z) = true := decide_eq_true hz
    go_upto_region 6 with fail
    go_cut [7] (fun pv wc => ∃ (P : Nat) (s : Int) (h1 h0 : Nat) (ea : Option Addr) (ec : Nat) (es : List (Int × Int)), pv = .pointer (some ⟨P, 0, none⟩) ∧ es.length ≤ 8 ∧ h1 ≤ P ∧ ClT w B n (.slice va vm vc) (m + 5 * k + 2) (.slice oa db.length oc) db us h1 h0 (.slice ea es.length ec) es wc ∧ Box wc P #[.int .i64 (k:Int), .int .i64 s, .slice ea es.length ec] 41)
    case first =>
      refine wp_region_noPanic ?_
      refine wp_region_held_drew (S := (fun w' => w'.cell? ⟨w.heap.size, 0, none⟩ = some (.int .i64 n) ∧ w'.cell? ⟨w.heap.size, 1, none⟩ = some (.slice va vm vc))) (by kernel_rfl) (by ((try dsimp only); (first | go_keep | exact ⟨b0, b1⟩))) (fun hHeld => ?_)
      obtain ⟨x0, hx0⟩ : ∃ W, x1.drew = W := ⟨_, rfl⟩
      replace HC := Lib.hid HC.out.drew
      rw [hx0] at HC hHeld ⊢
      clear b0 b1 f0 f1 hb0
      clear hx0
      have _b := box2 HC.out.box; have b0 := _b.1; have b1 := _b.2.1; have f0 := _b.2.2.1; have f1 := _b.2.2.2.1; have hb0 := _b.2.2.2.2; clear _b
      have hx0w : w.heap.size + 1 ≤ x0.heap.size := HC.out.box.lt
      have hrl : ∀ g, (Value.slice oa db.length oc).ownBlock = some g → g < x0.heap.size := fun g hg => (HC.out.row.1.lt g hg).2
      have hBx : B < w.heap.size := hB
      refine wpAnyH_take (i := 0) (oi := _) (v := ?_) rfl (by kernel_rfl) (by kernel_rfl) (by kernel_rfl) (fun _ _ _ h => h) (Or.inl ⟨by rfl, ?_⟩) (by assumption) ?_
      rotate_left
      focus (intro w hSw; (try dsimp only at hSw); go_simp; try (with_reducible rfl))
      try simp only [List.getElem_toArray, List.getElem_cons_zero, List.getElem_cons_succ, Act.put, List.setIfInBounds_toArray, List.set_cons_zero, List.set_cons_succ]
      refine wpAnyH_take (i := 1) (oi := _) (v := ?_) rfl (by kernel_rfl) (by kernel_rfl) (by kernel_rfl) (fun _ _ _ h => h) (Or.inl ⟨by rfl, ?_⟩) (by assumption) ?_
      rotate_left
      focus (intro w hSw; (try dsimp only at hSw); go_simp; try (with_reducible rfl))
      try simp only [List.getElem_toArray, List.getElem_cons_zero, List.getElem_cons_succ, Act.put, List.setIfInBounds_toArray, List.set_cons_zero, List.set_cons_succ]
      refine wpAnyH_take (i := 2) (oi := _) (v := ?_) rfl (by kernel_rfl) (by kernel_rfl) (by kernel_rfl) (fun _ _ _ h => h) (Or.inl ⟨by rfl, ?_⟩) (by assumption) ?_
      rotate_left
      focus (intro w hSw; (try dsimp only at hSw); go_simp; try (with_reducible rfl))
      try simp only [List.getElem_toArray, List.getElem_cons_zero, List.getElem_cons_succ, Act.put, List.setIfInBounds_toArray, List.set_cons_zero, List.set_cons_succ]
      refine wpAnyH_ready (rs := [3, 6]) (by kernel_rfl) (by simp) ?_
      refine AllReadyH.cons (o := _) rfl (fun K hK => ?_) (AllReadyH.cons (o := _) rfl (fun K hK => ?_) AllReadyH.nil)
      · go_simp
        go_at_call 50
        apply pick_op
        · exact HC.out.rd
        · exact by omega
        intro v2 x2 v2_0 v2_1 hR hG
        replace HC := Lib.hid (HC.out.only hB hG hR)
        have hsg := hG.size
        have wv2 : IntKind.i64.wrap (1 + v2) = 1 + v2 := IntWalk.i64_in _ (by omega)
        clear hR hG
        clear b0 b1 f0 f1 hb0
        have _b := box2 HC.out.box; have b0 := _b.1; have b1 := _b.2.1; have f0 := _b.2.2.1; have f1 := _b.2.2.2.1; have hb0 := _b.2.2.2.2; clear _b
        refine hK.out _ _ (by ((try dsimp only); (first | go_keep | exact ⟨b0, b1⟩))) (fun hHeld => ?_)
        clear hK K
        try simp only [List.getElem_toArray, List.getElem_cons_zero, List.getElem_cons_succ, Act.put, List.setIfInBounds_toArray, List.set_cons_zero, List.set_cons_succ]
        refine wpAnyH_take (i := 4) (oi := _) (v := ?_) rfl (by kernel_rfl) (by kernel_rfl) (by kernel_rfl) (fun _ _ _ h => h) (Or.inl ⟨by rfl, ?_⟩) (by assumption) ?_
        rotate_left
        focus (intro w hSw; (try dsimp only at hSw); go_simp; try (with_reducible rfl))
        try simp only [List.getElem_toArray, List.getElem_cons_zero, List.getElem_cons_succ, Act.put, List.setIfInBounds_toArray, List.set_cons_zero, List.set_cons_succ]
        refine wpAnyH_ready (rs := [5, 6]) (by kernel_rfl) (by simp) ?_
        refine AllReadyH.cons (o := _) rfl (fun K hK => ?_) (AllReadyH.cons (o := _) rfl (fun K hK => ?_) AllReadyH.nil)
        · go_simp
          go_at_call 59
          refine (sOf n ls (k:Int) (1 + v2) _ _ (tri_only HVV.out HC.out.gr HNE.out) hn8).mono ?_
          rintro e x3 ⟨ua, rfl, hO, hb⟩
          have HT := Lib.hid (HC.out.call hb hO hx0w (by omega) hrl)
          obtain ⟨ea, ec, rfl⟩ := own_slice hO.1
          clear hb hO
          clear b0 b1 f0 f1 hb0
          have _b := box2 HT.out.box; have b0 := _b.1; have b1 := _b.2.1; have f0 := _b.2.2.1; have f1 := _b.2.2.2.1; have hb0 := _b.2.2.2.2; clear _b
          have hx3 : x0.heap.size ≤ x3.heap.size := by have := HT.out.lo; omega
          refine hK.out _ _ (by ((try dsimp only); (first | go_keep | exact ⟨b0, b1⟩))) (fun hHeld => ?_)
          clear hK K
          try simp only [List.getElem_toArray, List.getElem_cons_zero, List.getElem_cons_succ, Act.put, List.setIfInBounds_toArray, List.set_cons_zero, List.set_cons_succ]
          refine wpAnyH_ready (rs := [6]) (by kernel_rfl) (by simp) ?_
          refine AllReadyH.cons (o := _) rfl (fun K hK => ?_) AllReadyH.nil
          go_simp
          have BP := Lib.hid (box_new x3 #[.int .i64 0, .int .i64 0, .slice none 0 0] 41)
          replace HT := Lib.hid (HT.out.alloc (.cells #[.int .i64 0, .int .i64 0, .slice none 0 0] 41))
          obtain ⟨x4, hx4⟩ : ∃ X, x3.alloc (.cells #[.int .i64 0, .int .i64 0, .slice none 0 0] 41) = X := ⟨_, rfl⟩
          rw [hx4] at BP HT ⊢
          clear hx4
          clear b0 b1 f0 f1 hb0
          have _b := box2 HT.out.box; have b0 := _b.1; have b1 := _b.2.1; have f0 := _b.2.2.1; have f1 := _b.2.2.2.1; have hb0 := _b.2.2.2.2; clear _b
          have _p := box3 BP.out; have p0 := _p.1; have p1 := _p.2.1; have p2 := _p.2.2.1; have q0 := _p.2.2.2.1; have q1 := _p.2.2.2.2.1; have q2 := _p.2.2.2.2.2.1; have hp0 := _p.2.2.2.2.2.2; clear _p
          refine hK.out _ _ (by ((try dsimp only); (first | go_keep | exact ⟨b0, b1⟩))) (fun hHeld => ?_)
          clear hK K
          try simp only [List.getElem_toArray, List.getElem_cons_zero, List.getElem_cons_succ, Act.put, List.setIfInBounds_toArray, List.set_cons_zero, List.set_cons_succ]
          refine wpAnyH_ready (rs := [7]) (by kernel_rfl) (by simp) ?_
          refine AllReadyH.cons (o := _) rfl (fun K hK => ?_) AllReadyH.nil
          go_simp
          have _p := box3 BP.out; have p0 := _p.1; have p1 := _p.2.1; have p2 := _p.2.2.1; have q0 := _p.2.2.2.1; have q1 := _p.2.2.2.2.1; have q2 := _p.2.2.2.2.2.1; have hp0 := _p.2.2.2.2.2.2; clear _p
          have hPp : x0.heap.size ≤ x3.heap.size := hx3
          have hPG : ¬ x3.heap.size = w.heap.size := by omega
          have HT1 := Lib.hid (HT.out.set hB BP.out hPp 0 (.int .i64 (k:Int)))
          have BP1 := Lib.hid (box3_set0 BP.out (.int .i64 (k:Int)))
          have HT2 := Lib.hid (HT1.out.set hB BP1.out hPp 1 (.int .i64 (1 + v2)))
          have BP2 := Lib.hid (box3_set1 BP1.out (.int .i64 (1 + v2)))
          have HT3 := Lib.hid (HT2.out.set hB BP2.out hPp 2 (.slice ea (endsN ls (k:Int) n.toNat).length ec))
          have BP3 := Lib.hid (box3_set2 BP2.out (.slice ea (endsN ls (k:Int) n.toNat).length ec))
          clear p0 p1 p2 q0 q1 q2 hp0
          clear b0 b1 f0 f1 hb0
          have _b := box2 HT3.out.box; have b0 := _b.1; have b1 := _b.2.1; have f0 := _b.2.2.1; have f1 := _b.2.2.2.1; have hb0 := _b.2.2.2.2; clear _b
          refine hK.out _ _ (by ((try dsimp only); (first | go_keep | exact ⟨b0, b1⟩))) (fun hHeld => ?_)
          clear hK K
          try simp only [List.getElem_toArray, List.getElem_cons_zero, List.getElem_cons_succ, Act.put, List.setIfInBounds_toArray, List.set_cons_zero, List.set_cons_succ]
          refine wpAnyH_done (by kernel_rfl) ?_ _
          refine NoPanic.normal ?_
          go_wp2_with fail
          go_meet
          exact ⟨_, 1 + v2, _, _, ea, ec, endsN ls (k:Int) n.toNat, rfl, hE8, hPp, HT3.out.mono (by omega), BP3.out⟩
        · go_simp
          have BP := Lib.hid (box_new x2 #[.int .i64 0, .int .i64 0, .slice none 0 0] 41)
          replace HC := Lib.hid (HC.out.alloc (.cells #[.int .i64 0, .int .i64 0, .slice none 0 0] 41))
          clear b0 b1 f0 f1 hb0
          have _b := box2 HC.out.box; have b0 := _b.1; have b1 := _b.2.1; have f0 := _b.2.2.1; have f1 := _b.2.2.2.1; have hb0 := _b.2.2.2.2; clear _b
          refine hK.out _ _ (by ((try dsimp only); (first | go_keep | exact ⟨b0, b1⟩))) (fun hHeld => ?_)
          clear hK K
          try simp only [List.getElem_toArray, List.getElem_cons_zero, List.getElem_cons_succ, Act.put, List.setIfInBounds_toArray, List.set_cons_zero, List.set_cons_succ]
          refine wpAnyH_ready (rs := [5]) (by kernel_rfl) (by simp) ?_
          refine AllReadyH.cons (o := _) rfl (fun K hK => ?_) AllReadyH.nil
          go_simp
          go_at_call 59
          refine (sOf n ls (k:Int) (1 + v2) _ _ (tri_only HVV.out HC.out.gr HNE.out) hn8).mono ?_
          rintro e x3 ⟨ua, rfl, hO, hb⟩
          replace BP := Lib.hid (BP.out.below hb BP.out.lt)
          have HT := Lib.hid (HC.out.call hb hO hx0w (by simp; omega) hrl)
          obtain ⟨ea, ec, rfl⟩ := own_slice hO.1
          clear hb hO
          clear b0 b1 f0 f1 hb0
          have _b := box2 HT.out.box; have b0 := _b.1; have b1 := _b.2.1; have f0 := _b.2.2.1; have f1 := _b.2.2.2.1; have hb0 := _b.2.2.2.2; clear _b
          have _p := box3 BP.out; have p0 := _p.1; have p1 := _p.2.1; have p2 := _p.2.2.1; have q0 := _p.2.2.2.1; have q1 := _p.2.2.2.2.1; have q2 := _p.2.2.2.2.2.1; have hp0 := _p.2.2.2.2.2.2; clear _p
          refine hK.out _ _ (by ((try dsimp only); (first | go_keep | exact ⟨b0, b1⟩))) (fun hHeld => ?_)
          clear hK K
          try simp only [List.getElem_toArray, List.getElem_cons_zero, List.getElem_cons_succ, Act.put, List.setIfInBounds_toArray, List.set_cons_zero, List.set_cons_succ]
          refine wpAnyH_ready (rs := [7]) (by kernel_rfl) (by simp) ?_
          refine AllReadyH.cons (o := _) rfl (fun K hK => ?_) AllReadyH.nil
          go_simp
          have _p := box3 BP.out; have p0 := _p.1; have p1 := _p.2.1; have p2 := _p.2.2.1; have q0 := _p.2.2.2.1; have q1 := _p.2.2.2.2.1; have q2 := _p.2.2.2.2.2.1; have hp0 := _p.2.2.2.2.2.2; clear _p
          have hPp : x0.heap.size ≤ x2.heap.size := hsg
          have hPG : ¬ x2.heap.size = w.heap.size := by omega
          have HT1 := Lib.hid (HT.out.set hB BP.out hPp 0 (.int .i64 (k:Int)))
          have BP1 := Lib.hid (box3_set0 BP.out (.int .i64 (k:Int)))
          have HT2 := Lib.hid (HT1.out.set hB BP1.out hPp 1 (.int .i64 (1 + v2)))
          have BP2 := Lib.hid (box3_set1 BP1.out (.int .i64 (1 + v2)))
          have HT3 := Lib.hid (HT2.out.set hB BP2.out hPp 2 (.slice ea (endsN ls (k:Int) n.toNat).length ec))
          have BP3 := Lib.hid (box3_set2 BP2.out (.slice ea (endsN ls (k:Int) n.toNat).length ec))
          clear p0 p1 p2 q0 q1 q2 hp0
          clear b0 b1 f0 f1 hb0
          have _b := box2 HT3.out.box; have b0 := _b.1; have b1 := _b.2.1; have f0 := _b.2.2.1; have f1 := _b.2.2.2.1; have hb0 := _b.2.2.2.2; clear _b
          refine hK.out _ _ (by ((try dsimp only); (first | go_keep | exact ⟨b0, b1⟩))) (fun hHeld => ?_)
          clear hK K
          try simp only [List.getElem_toArray, List.getElem_cons_zero, List.getElem_cons_succ, Act.put, List.setIfInBounds_toArray, List.set_cons_zero, List.set_cons_succ]
          refine wpAnyH_done (by kernel_rfl) ?_ _
          refine NoPanic.normal ?_
          go_wp2_with fail
          go_meet
          exact ⟨_, 1 + v2, _, _, ea, ec, endsN ls (k:Int) n.toNat, rfl, hE8, hPp, HT3.out.mono (by omega), BP3.out⟩
      · go_simp
        have BP := Lib.hid (box_new x0 #[.int .i64 0, .int .i64 0, .slice none 0 0] 41)
        replace HC := Lib.hid (HC.out.alloc (.cells #[.int .i64 0, .int .i64 0, .slice none 0 0] 41))
        clear b0 b1 f0 f1 hb0
        have _b := box2 HC.out.box; have b0 := _b.1; have b1 := _b.2.1; have f0 := _b.2.2.1; have f1 := _b.2.2.2.1; have hb0 := _b.2.2.2.2; clear _b
        refine hK.out _ _ (by ((try dsimp only); (first | go_keep | exact ⟨b0, b1⟩))) (fun hHeld => ?_)
        clear hK K
        try simp only [List.getElem_toArray, List.getElem_cons_zero, List.getElem_cons_succ, Act.put, List.setIfInBounds_toArray, List.set_cons_zero, List.set_cons_succ]
        refine wpAnyH_ready (rs := [3]) (by kernel_rfl) (by simp) ?_
        refine AllReadyH.cons (o := _) rfl (fun K hK => ?_) AllReadyH.nil
        go_simp
        go_at_call 50
        apply pick_op
        · exact HC.out.rd
        · exact by omega
        intro v2 x2 v2_0 v2_1 hR hG
        replace BP := Lib.hid (BP.out.only hG (by have := rdLe_lt HC.out.rd; omega))
        replace HC := Lib.hid (HC.out.only hB hG hR)
        have hsg := hG.size
        have wv2 : IntKind.i64.wrap (1 + v2) = 1 + v2 := IntWalk.i64_in _ (by omega)
        clear hR hG
        clear b0 b1 f0 f1 hb0
        have _b := box2 HC.out.box; have b0 := _b.1; have b1 := _b.2.1; have f0 := _b.2.2.1; have f1 := _b.2.2.2.1; have hb0 := _b.2.2.2.2; clear _b
        have hsz2 : x0.heap.size ≤ x2.heap.size := by simp at hsg; omega
        refine hK.out _ _ (by ((try dsimp only); (first | go_keep | exact ⟨b0, b1⟩))) (fun hHeld => ?_)
        clear hK K
        try simp only [List.getElem_toArray, List.getElem_cons_zero, List.getElem_cons_succ, Act.put, List.setIfInBounds_toArray, List.set_cons_zero, List.set_cons_succ]
        refine wpAnyH_take (i := 4) (oi := _) (v := ?_) rfl (by kernel_rfl) (by kernel_rfl) (by kernel_rfl) (fun _ _ _ h => h) (Or.inl ⟨by rfl, ?_⟩) (by assumption) ?_
        rotate_left
        focus (intro w hSw; (try dsimp only at hSw); go_simp; try (with_reducible rfl))
        try simp only [List.getElem_toArray, List.getElem_cons_zero, List.getElem_cons_succ, Act.put, List.setIfInBounds_toArray, List.set_cons_zero, List.set_cons_succ]
        refine wpAnyH_ready (rs := [5]) (by kernel_rfl) (by simp) ?_
        refine AllReadyH.cons (o := _) rfl (fun K hK => ?_) AllReadyH.nil
        go_simp
        go_at_call 59
        refine (sOf n ls (k:Int) (1 + v2) _ _ (tri_only HVV.out HC.out.gr HNE.out) hn8).mono ?_
        rintro e x3 ⟨ua, rfl, hO, hb⟩
        replace BP := Lib.hid (BP.out.below hb BP.out.lt)
        have HT := Lib.hid (HC.out.call hb hO hx0w (hsz2) hrl)
        obtain ⟨ea, ec, rfl⟩ := own_slice hO.1
        clear hb hO
        clear b0 b1 f0 f1 hb0
        have _b := box2 HT.out.box; have b0 := _b.1; have b1 := _b.2.1; have f0 := _b.2.2.1; have f1 := _b.2.2.2.1; have hb0 := _b.2.2.2.2; clear _b
        have _p := box3 BP.out; have p0 := _p.1; have p1 := _p.2.1; have p2 := _p.2.2.1; have q0 := _p.2.2.2.1; have q1 := _p.2.2.2.2.1; have q2 := _p.2.2.2.2.2.1; have hp0 := _p.2.2.2.2.2.2; clear _p
        refine hK.out _ _ (by ((try dsimp only); (first | go_keep | exact ⟨b0, b1⟩))) (fun hHeld => ?_)
        clear hK K
        try simp only [List.getElem_toArray, List.getElem_cons_zero, List.getElem_cons_succ, Act.put, List.setIfInBounds_toArray, List.set_cons_zero, List.set_cons_succ]
        refine wpAnyH_ready (rs := [7]) (by kernel_rfl) (by simp) ?_
        refine AllReadyH.cons (o := _) rfl (fun K hK => ?_) AllReadyH.nil
        go_simp
        have _p := box3 BP.out; have p0 := _p.1; have p1 := _p.2.1; have p2 := _p.2.2.1; have q0 := _p.2.2.2.1; have q1 := _p.2.2.2.2.1; have q2 := _p.2.2.2.2.2.1; have hp0 := _p.2.2.2.2.2.2; clear _p
        have hPp : x0.heap.size ≤ x0.heap.size := Nat.le_refl _
        have hPG : ¬ x0.heap.size = w.heap.size := by omega
        have HT1 := Lib.hid (HT.out.set hB BP.out hPp 0 (.int .i64 (k:Int)))
        have BP1 := Lib.hid (box3_set0 BP.out (.int .i64 (k:Int)))
        have HT2 := Lib.hid (HT1.out.set hB BP1.out hPp 1 (.int .i64 (1 + v2)))
        have BP2 := Lib.hid (box3_set1 BP1.out (.int .i64 (1 + v2)))
        have HT3 := Lib.hid (HT2.out.set hB BP2.out hPp 2 (.slice ea (endsN ls (k:Int) n.toNat).length ec))
        have BP3 := Lib.hid (box3_set2 BP2.out (.slice ea (endsN ls (k:Int) n.toNat).length ec))
        clear p0 p1 p2 q0 q1 q2 hp0
        clear b0 b1 f0 f1 hb0
        have _b := box2 HT3.out.box; have b0 := _b.1; have b1 := _b.2.1; have f0 := _b.2.2.1; have f1 := _b.2.2.2.1; have hb0 := _b.2.2.2.2; clear _b
        refine hK.out _ _ (by ((try dsimp only); (first | go_keep | exact ⟨b0, b1⟩))) (fun hHeld => ?_)
        clear hK K
        try simp only [List.getElem_toArray, List.getElem_cons_zero, List.getElem_cons_succ, Act.put, List.setIfInBounds_toArray, List.set_cons_zero, List.set_cons_succ]
        refine wpAnyH_done (by kernel_rfl) ?_ _
        refine NoPanic.normal ?_
        go_wp2_with fail
        go_meet
        exact ⟨_, 1 + v2, _, _, ea, ec, endsN ls (k:Int) n.toNat, rfl, hE8, hPp, HT3.out.mono (by omega), BP3.out⟩
    case rest =>
      obtain ⟨P, s, h1, h0, ea, ec, es, rfl, hes, hhP, hT, hBP⟩ := hcut
      have HT := Lib.hid hT; have HBP := Lib.hid hBP
      have hPB : P ≠ B := by have := hT.lo; omega
      clear hT hBP HC b0 b1 f0 f1 hb0
      obtain ⟨p0, p1, p2, q0, q1, q2, hp0⟩ := box3 HBP.out
      go_upto_region 7 with fail
      go_cut [32] (fun tv wc => ∃ q, tv = .bool q ∧ (q = true → 0 < es.length) ∧ ClT w B n (.slice va vm vc) (m + 5 * k + 3) (.slice oa db.length oc) db us h1 h0 (.slice ea es.length ec) es wc ∧ Box wc P #[.int .i64 (k:Int), .int .i64 s, .slice ea es.length ec] 41)
      case first =>
        by_cases hel : 0 < es.length
        rotate_left
        · have t3 : decide ((0:Int) < (es.length:Int)) = false := decide_eq_false (by omega)
          go_wp2_with fail
          go_meet
          exact ⟨false, rfl, (fun h => by cases h), HT.out.mono (by omega), HBP.out⟩
        have t3 : decide ((0:Int) < (es.length:Int)) = true := decide_eq_true (by omega)
        go_wp2_with fail
        apply pick_op
        · exact HT.out.rd
        · exact by omega
        intro y x5 y_0 y_1 hR hG
        replace HBP := Lib.hid (HBP.out.only hG hPB)
        replace HT := Lib.hid (HT.out.only hB hG hR)
        clear hR hG p0 p1 p2 q0 q1 q2 hp0
        go_wp2_with fail
        go_meet
        exact ⟨y == 0, rfl, fun _ => hel, HT.out.mono (by omega), HBP.out⟩
      case rest =>
      obtain ⟨q, rfl, hq, hT, hBP⟩ := hcut
      clear HT HBP p0 p1 p2 q0 q1 q2 hp0
      have HT := Lib.hid hT; have HBP := Lib.hid hBP; have HQ := Lib.hid hq
      clear hT hBP hq
      obtain ⟨x5, hx5⟩ : ∃ X, X = wc := ⟨_, rfl⟩
      subst hx5
      go_upto_if 32 with fail
      go_cut [] (fun wc => ∃ es' : List (Int × Int), List.length es' = es.length ∧ ClT w B n (.slice va vm vc) (m + 5 * k + 5) (.slice oa db.length oc) db us h1 h0 (.slice ea es.length ec) es' wc ∧ Box wc P #[.int .i64 (k:Int), .int .i64 s, .slice ea es.length ec] 41)
      case first =>
        cases q with
        | false =>
          go_wp2_with fail
          go_meet
          exact ⟨es, rfl, HT.out.mono (by omega), HBP.out⟩
        | true =>
        have hel := HQ.out rfl
        obtain ⟨eb, ecc, hee, hlo⟩ := own_pos HT.out.own.1 hel
        injection hee with hee heem heec
        subst hee
        clear heem heec
        obtain ⟨p0, p1, p2, q0, q1, q2, hp0⟩ := box3 HBP.out
        go_wp2_with fail
        refine wp_region_noPanic ?_
        refine wp_region_held_drew (S := (fun w' => w'.cell? ⟨P, 2, none⟩ = some (.slice (some ⟨eb, 0, none⟩) es.length ec))) (by kernel_rfl) (by ((try dsimp only); (first | go_keep | exact p2))) (fun hHeld => ?_)
        obtain ⟨x6, hx6⟩ : ∃ W, x5.drew = W := ⟨_, rfl⟩
        replace HT := Lib.hid (HT.out.drewT)
        replace HBP := Lib.hid HBP.out.drew
        rw [hx6] at HT HBP hHeld ⊢
        clear p0 p1 p2 q0 q1 q2 hp0
        clear hx6
        have _p := box3 HBP.out; have p0 := _p.1; have p1 := _p.2.1; have p2 := _p.2.2.1; have q0 := _p.2.2.2.1; have q1 := _p.2.2.2.2.1; have q2 := _p.2.2.2.2.2.1; have hp0 := _p.2.2.2.2.2.2; clear _p
        refine wpAnyH_take (i := 0) (oi := _) (v := ?_) rfl (by kernel_rfl) (by kernel_rfl) (by kernel_rfl) (fun _ _ _ h => h) (Or.inl ⟨by rfl, ?_⟩) (by assumption) ?_
        rotate_left
        focus (intro w hSw; (try dsimp only at hSw); go_simp; try (with_reducible rfl))
        try simp only [List.getElem_toArray, List.getElem_cons_zero, List.getElem_cons_succ, Act.put, List.setIfInBounds_toArray, List.set_cons_zero, List.set_cons_succ]
        refine wpAnyH_take (i := 1) (oi := _) (v := ?_) rfl (by kernel_rfl) (by kernel_rfl) (by kernel_rfl) (fun _ _ _ h => h) (Or.inl ⟨by rfl, ?_⟩) (by assumption) ?_
        rotate_left
        focus (intro w hSw; (try dsimp only at hSw); go_simp; try (with_reducible rfl))
        try simp only [List.getElem_toArray, List.getElem_cons_zero, List.getElem_cons_succ, Act.put, List.setIfInBounds_toArray, List.set_cons_zero, List.set_cons_succ]
        refine wpAnyH_take (i := 2) (oi := _) (v := ?_) rfl (by kernel_rfl) (by kernel_rfl) (by kernel_rfl) (fun _ _ _ h => h) (Or.inl ⟨by rfl, ?_⟩) (by assumption) ?_
        rotate_left
        focus (intro w hSw; (try dsimp only at hSw); go_simp; try (with_reducible rfl))
        try simp only [List.getElem_toArray, List.getElem_cons_zero, List.getElem_cons_succ, Act.put, List.setIfInBounds_toArray, List.set_cons_zero, List.set_cons_succ]
        refine wpAnyH_take (i := 3) (oi := _) (v := ?_) rfl (by kernel_rfl) (by kernel_rfl) (by kernel_rfl) (fun _ _ _ h => h) (Or.inl ⟨by rfl, ?_⟩) (by assumption) ?_
        rotate_left
        focus (intro w hSw; (try dsimp only at hSw); go_simp; try (with_reducible rfl))
        try simp only [List.getElem_toArray, List.getElem_cons_zero, List.getElem_cons_succ, Act.put, List.setIfInBounds_toArray, List.set_cons_zero, List.set_cons_succ]
        refine wpAnyH_take (i := 4) (oi := _) (v := ?_) rfl (by kernel_rfl) (by kernel_rfl) (by kernel_rfl) (fun _ _ _ h => h) (Or.inl ⟨by rfl, ?_⟩) (by assumption) ?_
        rotate_left
        focus (intro w hSw; (try dsimp only at hSw); go_simp; try (with_reducible rfl))
        try simp only [List.getElem_toArray, List.getElem_cons_zero, List.getElem_cons_succ, Act.put, List.setIfInBounds_toArray, List.set_cons_zero, List.set_cons_succ]
        refine wpAnyH_take (i := 5) (oi := _) (v := ?_) rfl (by kernel_rfl) (by kernel_rfl) (by kernel_rfl) (fun _ _ _ h => h) (Or.inl ⟨by rfl, ?_⟩) (by assumption) ?_
        rotate_left
        focus (intro w hSw; (try dsimp only at hSw); go_simp; try (with_reducible rfl))
        try simp only [List.getElem_toArray, List.getElem_cons_zero, List.getElem_cons_succ, Act.put, List.setIfInBounds_toArray, List.set_cons_zero, List.set_cons_succ]
        refine wpAnyH_take (i := 7) (oi := _) (v := ?_) rfl (by kernel_rfl) (by kernel_rfl) (by kernel_rfl) (fun _ _ _ h => h) (Or.inl ⟨by rfl, ?_⟩) (by assumption) ?_
        rotate_left
        focus (intro w hSw; (try dsimp only at hSw); go_simp; try (with_reducible rfl))
        try simp only [List.getElem_toArray, List.getElem_cons_zero, List.getElem_cons_succ, Act.put, List.setIfInBounds_toArray, List.set_cons_zero, List.set_cons_succ]
        refine wpAnyH_ready (rs := [6]) (by kernel_rfl) (by simp) ?_
        refine AllReadyH.cons (o := _) rfl (fun K hK => ?_) AllReadyH.nil
        go_simp
        go_at_call 50
        apply pick_op
        · exact HT.out.rd
        · exact by omega
        intro v5 x7 v5_0 v5_1 hR hG
        replace HBP := Lib.hid (HBP.out.only hG hPB)
        replace HT := Lib.hid (HT.out.only hB hG hR)
        clear hR hG
        clear p0 p1 p2 q0 q1 q2 hp0
        have _p := box3 HBP.out; have p0 := _p.1; have p1 := _p.2.1; have p2 := _p.2.2.1; have q0 := _p.2.2.2.1; have q1 := _p.2.2.2.2.1; have q2 := _p.2.2.2.2.2.1; have hp0 := _p.2.2.2.2.2.2; clear _p
        refine hK.out _ _ (by ((try dsimp only); (first | go_keep | exact p2))) (fun hHeld => ?_)
        clear hK K
        try simp only [List.getElem_toArray, List.getElem_cons_zero, List.getElem_cons_succ, Act.put, List.setIfInBounds_toArray, List.set_cons_zero, List.set_cons_succ]
        refine wpAnyH_ready (rs := [8]) (by kernel_rfl) (by simp) ?_
        refine AllReadyH.cons (o := _) rfl (fun K hK => ?_) AllReadyH.nil
        go_simp
        go_at_call 50
        apply pick_op
        · exact HT.out.rd
        · exact by omega
        intro v6 x8 v6_0 v6_1 hR hG
        replace HBP := Lib.hid (HBP.out.only hG hPB)
        replace HT := Lib.hid (HT.out.only hB hG hR)
        clear hR hG
        clear p0 p1 p2 q0 q1 q2 hp0
        have _p := box3 HBP.out; have p0 := _p.1; have p1 := _p.2.1; have p2 := _p.2.2.1; have q0 := _p.2.2.2.1; have q1 := _p.2.2.2.2.1; have q2 := _p.2.2.2.2.2.1; have hp0 := _p.2.2.2.2.2.2; clear _p
        have wv6 : IntKind.i64.wrap (1 + v6) = 1 + v6 := IntWalk.i64_in _ (by omega)
        have hv5 : v5 < (es.length:Int) := by omega
        obtain ⟨⟨ex, ey⟩, hel2⟩ := at_lt (l := es) (n := es.length) rfl (k := v5.toNat) (by omega)
        have d1 := (HT.out.own.1.cellAt (v5.toNat * 2 + 1) (by omega)).trans (cells2_at hel2).2
        have g1 := HT.out.own.1.frozenAt (v5.toNat * 2 + 1)
        have hPe : P ≠ eb := fun e => box_own_ne HBP.out HT.out.own.1 (by decide) (by rw [e]; rfl)
        refine hK.out _ _ (by ((try dsimp only); (first | go_keep | exact p2))) (fun hHeld => ?_)
        clear hK K
        try simp only [List.getElem_toArray, List.getElem_cons_zero, List.getElem_cons_succ, Act.put, List.setIfInBounds_toArray, List.set_cons_zero, List.set_cons_succ]
        refine wpAnyH_take (i := 9) (oi := _) (v := ?_) rfl (by kernel_rfl) (by kernel_rfl) (by kernel_rfl) (fun _ _ _ h => h) (Or.inl ⟨by rfl, ?_⟩) (by assumption) ?_
        rotate_left
        focus (intro w hSw; (try dsimp only at hSw); go_simp; try (with_reducible rfl))
        try simp only [List.getElem_toArray, List.getElem_cons_zero, List.getElem_cons_succ, Act.put, List.setIfInBounds_toArray, List.set_cons_zero, List.set_cons_succ]
        refine wpAnyH_take (i := 10) (oi := _) (v := ?_) rfl (by kernel_rfl) (by kernel_rfl) (by kernel_rfl) (fun _ _ _ h => h) (Or.inl ⟨by rfl, ?_⟩) (by assumption) ?_
        rotate_left
        focus (intro w hSw; (try dsimp only at hSw); go_simp; try (with_reducible rfl))
        try simp only [List.getElem_toArray, List.getElem_cons_zero, List.getElem_cons_succ, Act.put, List.setIfInBounds_toArray, List.set_cons_zero, List.set_cons_succ]
        refine wpAnyH_take (i := 11) (oi := _) (v := ?_) rfl (by kernel_rfl) (by kernel_rfl) (by kernel_rfl) (fun _ _ _ h => h) (Or.inl ⟨by rfl, ?_⟩) (by assumption) ?_
        rotate_left
        focus (intro w hSw; (try dsimp only at hSw); go_simp; try (with_reducible rfl))
        try simp only [List.getElem_toArray, List.getElem_cons_zero, List.getElem_cons_succ, Act.put, List.setIfInBounds_toArray, List.set_cons_zero, List.set_cons_succ]
        refine wpAnyH_ready (rs := [12]) (by kernel_rfl) (by simp) ?_
        refine AllReadyH.cons (o := _) rfl (fun K hK => ?_) AllReadyH.nil
        go_simp
        have HT9 := Lib.hid (HT.out.put hB hel2 (1 + v6))
        have HBP9 := Lib.hid (HBP.out.setOther (a := ⟨eb, v5.toNat * 2 + 1, none⟩) hPe (.int .i64 (1 + v6)))
        clear p0 p1 p2 q0 q1 q2 hp0
        have _p := box3 HBP9.out; have p0 := _p.1; have p1 := _p.2.1; have p2 := _p.2.2.1; have q0 := _p.2.2.2.1; have q1 := _p.2.2.2.2.1; have q2 := _p.2.2.2.2.2.1; have hp0 := _p.2.2.2.2.2.2; clear _p
        refine hK.out _ _ (by ((try dsimp only); (first | go_keep | exact p2))) (fun hHeld => ?_)
        clear hK K
        try simp only [List.getElem_toArray, List.getElem_cons_zero, List.getElem_cons_succ, Act.put, List.setIfInBounds_toArray, List.set_cons_zero, List.set_cons_succ]
        refine wpAnyH_done (by kernel_rfl) ?_ _
        refine NoPanic.normal ?_
        go_wp2_with fail
        go_meet
        exact ⟨es.set v5.toNat (ex, 1 + v6), by rw [List.length_set], HT9.out.mono (by omega), HBP9.out⟩
      case rest =>
        obtain ⟨es', hle, hT, hBP⟩ := hcut
        clear HT HBP
        have HT := Lib.hid hT; have HBP := Lib.hid hBP
        obtain ⟨xx, hxx⟩ : ∃ X, X = wc := ⟨_, rfl⟩
        subst hxx
        clear hT hBP
        obtain ⟨p0, p1, p2, q0, q1, q2, hp0⟩ := box3 HBP.out
        have hlo := HT.out.lo
        have hrw : ∀ j, (Value.slice oa db.length oc).ownBlock = some j → w.heap.size + 1 ≤ j := fun j hj => (HT.out.row.lt j hj).1
        have HRW := Lib.hid hrw
        clear hrw
        go_wp2_with (at_builtin; refine wpList_append_rd rfl _ _ _ rfl (w.heap.size + 1) 41 i0 _ 3 40 Try.underlying29 HI.out HZ0.out HZ1.out HZ2.out rfl (by omega) (.slice oa db.length oc) db.length (cellsL db us) rfl (HT.out.row.alloc _) (some ⟨xx.heap.size, 0, none⟩) 1 1 [.int .i64 (k:Int), .int .i64 s, .slice ea es.length ec] rfl (srcAt_one (box_new xx _ _) rfl) (by simp [Value.oneCell']) (by unfold maxLen; omega) (by omega) (by simp; omega) ?_; intro v' w4 hown hgrow hloc)
        have hR4 := RowLs.snoc2 (o := (k:Int)) (s := s) (es := es') HT.out.row HT.out.ends HT.out.own (by omega) (by omega) hown hgrow
        have hG5 := only_grown (only_alloc HT.out.gr _) hgrow (fun j hj => by have := HRW.out j hj; omega)
        have hR5 := rdLe_grown (rdLe_alloc HT.out.rd _) hgrow (fun j hj => by have := HRW.out j hj; omega)
        have hX5 := (HT.out.box.alloc _).grown hgrow (fun j hj e => by have := HRW.out j hj; omega)
        have HC5 : Hid (ClS w B n (.slice va vm vc) (m + 5 * k + 5) v' (db ++ [((k:Int), s, es')]) (us ++ [.slice ea es.length ec]) w4) := Lib.hid ⟨hR5, hR4, hX5, hG5⟩
        clear hR4 hG5 hR5 hX5 hgrow hown hloc HT HBP p0 p1 p2 q0 q1 q2 hp0
        go_wp2_with fail
        go_roundw
        case rel => exact ⟨k + 1, _, _, by omega, by go_num, HF.out.snoc (by omega), HC5.out.mono (by omega)⟩
        case measure => simp [intOf]; omega
end Go.Proofs.Ytnnkdoomjkccgaa
