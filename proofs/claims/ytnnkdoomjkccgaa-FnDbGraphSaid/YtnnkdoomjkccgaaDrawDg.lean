/- The draw of a number of nodes and announcements: DrawDbGraph. -/
import Derived.Test.YtnnkdoomjkccgaaDrawCl
namespace Go.Proofs.Ytnnkdoomjkccgaa
set_option linter.unusedSimpArgs false
set_option linter.unusedVariables false
open Go.RowKit

/-- Announcements are drawn one by one: the reader, the row so far. -/
structure DcS (w : World) (B : Nat) (m : Int) (ov : Value) (db : List LsaD) (us : List Value) (W : World) : Prop where
  rd : RdLe W B m
  row : RowLs W w.heap.size ov db us
  gr : w.grownBy W (some B)
  le : w.heap.size ≤ W.heap.size
/-- .. and one more is made, its ends in a row of their own, not yet appended. -/
structure DcT (w : World) (B : Nat) (m : Int) (ov : Value) (db : List LsaD) (us : List Value) (h0 : Nat) (ua : Value) (es : List (Int × Int)) (W : World) : Prop where
  rd : RdLe W B m
  row : W.ownsRow w.heap.size 41 3 ov db.length (cellsL db us)
  ends : EndsOwn W w.heap.size h0 43 db us
  own : OwnR W h0 W.heap.size 43 2 ua es.length (cells2 es)
  gr : w.grownBy W (some B)
  rl : ∀ g, ov.ownBlock = some g → g < h0
  lo : w.heap.size ≤ h0 ∧ h0 ≤ W.heap.size
section
variable {w : World} {B : Nat} {m : Int} {ov : Value} {db : List LsaD} {us : List Value} {h0 : Nat} {ua : Value} {es : List (Int × Int)} {W W' W4 : World}
theorem DcS.mono (h : DcS w B m ov db us W) {m' : Int} (hm : m ≤ m') : DcS w B m' ov db us W := ⟨rdLe_mono h.rd hm, h.row, h.gr, h.le⟩
theorem DcT.mono (h : DcT w B m ov db us h0 ua es W) {m' : Int} (hm : m ≤ m') : DcT w B m' ov db us h0 ua es W := ⟨rdLe_mono h.rd hm, h.row, h.ends, h.own, h.gr, h.rl, h.lo⟩
theorem DcT.endType (h : DcT w B m ov db us h0 ua es W) {k : Nat} {u : Value} (hu : us[k]? = some u) : ∃ (o' s' : Int) (es' : List (Int × Int)), OwnR W w.heap.size h0 43 2 u es'.length (cells2 es') := by
  obtain ⟨⟨o', s', es'⟩, hd⟩ := at_lt (l := db) (n := db.length) rfl (k := k) (by have := h.ends.len; have := (List.getElem?_eq_some_iff.1 hu).1; omega)
  exact ⟨o', s', es', h.ends.ends k o' s' es' u hd hu⟩
theorem DcT.only (h : DcT w B m ov db us h0 ua es W) (hB : B < w.heap.size) (hg : W.grownBy W' (some B)) {m' : Int} (hr : RdLe W' B m') : DcT w B m' ov db us h0 ua es W' := by
  obtain ⟨l2, l3⟩ := h.lo
  refine ⟨hr, own_only h.row hg (by omega), h.ends.block hg fun g e k u hu hk => ?_, ⟨own_only h.own.1 hg (by omega), fun g hg' => Nat.lt_of_lt_of_le (h.own.2 g hg') hg.size⟩, only_trans h.gr hg, h.rl, l2, Nat.le_trans l3 hg.size⟩
  injection e with e
  subst e
  obtain ⟨_, _, _, ho⟩ := h.endType hu
  have := (ho.1.lt _ hk).1
  omega
/-- A new announcement without ends. -/
theorem DcS.new (h : DcS w B m ov db us W) (a s : Int) : DcT w B m ov db us W.heap.size (.slice (some ⟨W.heap.size, 0, none⟩) 0 0) [] ((W.alloc (.cells #[] 43)).alloc (.cells #[.int .i64 a, .int .i64 s, .slice (some ⟨W.heap.size, 0, none⟩) 0 0] 41)) := by
  have hb : Below W.heap.size W ((W.alloc (.cells #[] 43)).alloc (.cells #[.int .i64 a, .int .i64 s, .slice (some ⟨W.heap.size, 0, none⟩) 0 0] 41)) := (by with_reducible (repeat (first | (refine below_drewN ?_ _) | (refine Below.drew ?_) | (refine below_alloc ?_ (by first | omega | (simp; done) | (simp; omega)) _) | (refine Below.setCell ?_ (by first | omega | (simp; done) | (simp; omega)) _) | exact Below.refl _ _ | assumption | (refine below_call ?_ (by first | omega | (simp; done) | (simp; omega)) (by assumption)))))
  refine ⟨rdLe_alloc (rdLe_alloc h.rd _) _, (h.row.1.alloc _).alloc _, h.row.2.below hb (Nat.le_refl _), OwnR.of (World.ownsRow.alloc (own_new rfl (Nat.le_refl _)) _), only_alloc (only_alloc h.gr _) _, fun g hg => (h.row.1.lt g hg).2, h.le, by simp; omega⟩
/-- One end more. -/
theorem DcT.snoc (h : DcT w B m ov db us h0 ua es W) (hB : B < w.heap.size) {P : Nat} {a s : Int} (hP : Box W P #[.int .i64 a, .int .i64 s, ua] 41) (hp : h0 ≤ P) {ob : Obj} {v' : Value} {x y : Int} (hg : (W.alloc ob).grownBy W4 ua.ownBlock) (ho : W4.ownsRow h0 43 2 v' (es.length + 1) (cells2 es ++ [.int .i64 x, .int .i64 y])) :
    DcT w B m ov db us h0 v' (es ++ [(x, y)]) (W4.setCell ⟨P, 2, none⟩ v') ∧ Box (W4.setCell ⟨P, 2, none⟩ v') P #[.int .i64 a, .int .i64 s, v'] 41 := by
  obtain ⟨l2, l3⟩ := h.lo
  have hge : ∀ j, ua.ownBlock = some j → h0 ≤ j := fun j hj => (h.own.1.lt j hj).1
  have b4 : Box W4 P #[.int .i64 a, .int .i64 s, ua] 41 := (hP.alloc ob).grown hg fun i hi e => box_own_ne hP h.own.1 (by decide) (by rw [hi, e])
  have o4 : W4.ownsRow h0 43 2 v' (es ++ [(x, y)]).length (cells2 (es ++ [(x, y)])) := by rw [List.length_append, cells2_snoc, List.append_assoc]; exact ho
  have hb : Below h0 (W.alloc ob) W4 := Below.grown (Below.refl h0 _) hg (by simp; omega) hge
  have r4 : W4.ownsRow w.heap.size 41 3 ov db.length (cellsL db us) := ((OwnR.of (h.row.alloc ob)).kept hg fun g hg' e => own_own_ne h.row h.own.1 (by decide) g hg' e).1
  have e4 : EndsOwn W4 w.heap.size h0 43 db us := (h.ends.alloc ob).below hb (Nat.le_refl _)
  refine ⟨⟨rdLe_setCell (rdLe_grown (rdLe_alloc h.rd ob) hg fun j hj => (by have := hge j hj; omega)) (by simp; omega) _, own_setOther r4 (a := ⟨P, 2, none⟩) (fun e => by have := h.rl P e; omega) _, e4.block (grown_setCell (only_refl W4 (some P)) 2 v') fun g e k u hu => ?_, ⟨own_setOther o4 (a := ⟨P, 2, none⟩) (box_own_ne b4 o4 (by decide)) _, fun g hg' => by simpa using (o4.lt g hg').2⟩, only_setCell (only_grown (only_alloc h.gr ob) hg fun j hj => (by have := hge j hj; omega)) (p := ⟨P, 2, none⟩) (.inr (by simp; omega)) _, h.rl, l2, by have := hb.size; have := hg.size; simp at this ⊢; omega⟩, box3_set2 b4 _⟩
  injection e with e
  subst e
  obtain ⟨⟨o', s', es'⟩, hd⟩ := at_lt (l := db) (n := db.length) rfl (k := k) (by have := h.ends.len; have := (List.getElem?_eq_some_iff.1 hu).1; omega)
  exact box_own_ne b4 (e4.ends k o' s' es' u hd hu).1 (by decide)
end
/-- A number and some few announcements. -/
structure DbgPost (w : World) (e : Ending) (w' : World) : Prop where
  ex : ∃ (n : Int) (v : Value) (db : List LsaD), e = .returned (.tuple #[.int .i64 n, v]) ∧ LsasAt w' v db ∧ db.length ≤ 100
  below : Below w.heap.size w w'
set_option maxRecDepth 100000 in
set_option maxHeartbeats 8000000 in
theorem drawDbg (v : Value) (w : World) (h : CodeAt w v) : Calls Try.prog 18 #[v] w (DbgPost w) := by
  have HCo := Lib.hid h
  obtain ⟨i0, hi, hz0, hz1, hz2⟩ := info_parts infoL
  obtain ⟨j0, hj, hy0, hy1, hy2⟩ := info_parts infoE
  have HI := Lib.hid hi; have HZ0 := Lib.hid hz0; have HZ1 := Lib.hid hz1; have HZ2 := Lib.hid hz2
  have HJ := Lib.hid hj; have HY0 := Lib.hid hy0; have HY1 := Lib.hid hy1; have HY2 := Lib.hid hy2
  clear hi hz0 hz1 hz2 hj hy0 hy1 hy2 h
  go_enter Try.func18, Try.ntmps18
  go_wp2_with fail
  refine (open_any v w w.heap.size rfl HCo.out).mono ?_
  rintro e w1 ⟨rfl, hR1, hb1, hlt1⟩
  obtain ⟨B, hB⟩ : ∃ B, w.heap.size = B := ⟨_, rfl⟩
  have HB1 := Lib.hid hb1
  have HR1 := Lib.hid hR1
  rw [hB] at HR1 hlt1 ⊢
  have HBB := Lib.hid hB
  clear hb1 hR1 hB HCo
  go_wp2_with fail
  refine (drawG B 0 _ HR1.out (by omega)).mono ?_
  rintro e w2 ⟨n, u, ls, rfl, hls, hO, hR2, hG2, hn0, hn8⟩
  have hlo : ∀ g, u.ownBlock = some g → B < g := fun g hg => by have := (hO.lt g hg).1; omega
  have hne : u.ownBlock ≠ some B := fun e => by have := hlo _ e; omega
  have HNE := Lib.hid hne
  have HT2 := Lib.hid (own_triples hO)
  have HB2 : Hid (Below B w w2) := Lib.hid (by rw [← HBB.out]; exact below_only HB1.out (Nat.le_refl _) (Nat.le_refl _) (by rw [HBB.out]; exact hG2))
  have HR2 := Lib.hid hR2
  have hs2 : B < w2.heap.size := rdLe_lt hR2
  obtain ⟨ua, um, uc, rfl⟩ := HT2.out.form
  clear hlo hne hO hR2 hG2 HR1 HB1
  go_wp2_with fail
  obtain ⟨X, hX⟩ : ∃ X, w2.alloc (.cells #[.int .i64 n, .slice ua um uc] 26) = X := ⟨_, rfl⟩
  obtain ⟨G, hG⟩ : ∃ G, w2.heap.size = G := ⟨_, rfl⟩
  have GX : Box X G #[.int .i64 n, .slice ua um uc] 26 := by rw [← hX, ← hG]; exact box_new _ _ _
  have HTX : Hid (TriplesAt X (.slice ua um uc) ls) := Lib.hid (by rw [← hX]; exact HT2.out.below ((Below.refl _ _).alloc (Nat.le_refl _) _) (Nat.le_refl _))
  have HBX : Hid (Below B w X) := Lib.hid (by rw [← hX]; exact HB2.out.alloc (by omega) _)
  have HRX : Hid (RdLe X B (0 + 400)) := Lib.hid (by rw [← hX]; exact rdLe_alloc HR2.out _)
  rw [hX, hG]
  have hGB : G ≠ B := by omega
  clear hX hG HT2 HB2 HR2 hs2
  apply pick_op
  · exact HRX.out
  · exact by omega
  intro x x3 x_0 x_1 hR hG
  have HG3 := Lib.hid (GX.only hG hGB)
  have HT3 := Lib.hid (tri_only HTX.out hG HNE.out)
  have HB3 : Hid (Below B w x3) := Lib.hid (below_only HBX.out (by have := HBB.out; omega) (Nat.le_refl _) hG)
  have HR3 := Lib.hid hR
  have hs3 : B < x3.heap.size := rdLe_lt hR
  clear hR hG GX HTX HBX HRX
  obtain ⟨g0, g1, f0, f1, hg0⟩ := box2 HG3.out
  -- the end: announcements of the graph
  have hfin : ∀ (W : World) (N : Int) (M : Int), M < 10000 → RdLe W B M → Below B w W → TriplesAt W (.slice ua um uc) ls → Calls Try.prog 52 #[.pointer (some ⟨B, 0, none⟩), .agg #[.int .i64 n, .slice ua um uc]] W fun e w' => ∃ v, e = .returned v ∧ (∃ db, LsasAt w' v db ∧ db.length ≤ 100) ∧ Below B w w' := fun W N M hM hR hb hT => by
    refine (drawClose B M n ls _ W hT HNE.out hn8 hR (by omega)).mono ?_
    rintro e w' ⟨v', db, us, rfl, hO, hF, _, hG⟩
    exact ⟨v', rfl, ⟨db, hO.at_, by have := hF.1; omega⟩, below_only hb (by have := HBB.out; omega) (Nat.le_refl _) hG⟩
  have HFIN := Lib.hid hfin
  clear hfin
  rcases Bool.eq_false_or_eq_true (x == 0) with hx0 | hx0
  · go_wp2_with fail
    apply pick_op
    · exact HR3.out
    · exact by omega
    intro y x4 y_0 y_1 hR hG
    have HG4 := Lib.hid (HG3.out.only hG hGB)
    have HT4 := Lib.hid (tri_only HT3.out hG HNE.out)
    have HB4 : Hid (Below B w x4) := Lib.hid (below_only HB3.out (by have := HBB.out; omega) (Nat.le_refl _) hG)
    have HR4 := Lib.hid hR
    clear hR hG g0 g1 f0 f1 hg0
    obtain ⟨g0, g1, f0, f1, hg0⟩ := box2 HG4.out
    go_wp2_with fail
    refine (HFIN.out x4 y _ (by omega) HR4.out HB4.out HT4.out).mono ?_
    rintro e x5 ⟨v5, rfl, ⟨db, hL, hl⟩, hb⟩
    have HL := Lib.hid hL; have HB5 := Lib.hid hb
    obtain ⟨da, dm, dc, rfl⟩ := hL.form
    clear hL hb
    go_wp2_with fail
    go_ret2
    exact ⟨⟨y, _, db, rfl, HL.out, hl⟩, by rw [HBB.out]; exact HB5.out⟩
  rcases Bool.eq_false_or_eq_true (x == 1) with hx1 | hx1
  · go_wp2_with fail
    refine (drawDb B _ _ HR3.out (by omega)).mono ?_
    rintro e x4 ⟨v4, db, us, rfl, hO, hsm, hl, _, hG⟩
    have HL := Lib.hid hO.at_
    have HB4 : Hid (Below B w x4) := Lib.hid (below_only HB3.out (by have := HBB.out; omega) (Nat.le_refl _) hG)
    obtain ⟨da, dm, dc, rfl⟩ := HL.out.form
    clear hO hsm hG
    go_wp2_with fail
    go_ret2
    exact ⟨⟨6, _, db, rfl, HL.out, by omega⟩, by rw [HBB.out]; exact HB4.out⟩
  rcases Bool.eq_false_or_eq_true (x == 2) with hx2 | hx2
  rotate_left
  · go_wp2_with fail
    refine (HFIN.out x3 n _ (by omega) HR3.out HB3.out HT3.out).mono ?_
    rintro e x5 ⟨v5, rfl, ⟨db, hL, hl⟩, hb⟩
    have HL := Lib.hid hL; have HB5 := Lib.hid hb
    obtain ⟨da, dm, dc, rfl⟩ := hL.form
    clear hL hb
    go_wp2_with fail
    go_ret2
    exact ⟨⟨n, _, db, rfl, HL.out, hl⟩, by rw [HBB.out]; exact HB5.out⟩
  have hS0 : DcS x3 B (0 + 400 + 1) (.slice (some ⟨x3.heap.size, 0, none⟩) 0 0) [] [] (x3.alloc (.cells #[] 41)) :=
    ⟨rdLe_alloc HR3.out _, rowLs_new rfl (Nat.le_refl _), only_alloc (only_refl _ _) _, by simp⟩
  have HS0 := Lib.hid hS0
  clear hS0 HFIN HG3 HT3 g0 g1 f0 f1 hg0
  go_wp2_with fail
  go_loopw [7, 8] (fun ov i wr => ∃ (a : Nat) (db : List LsaD) (us : List Value), a ≤ 6 ∧ i = .int .i64 a ∧ db.length ≤ a ∧ DcS x3 B (500 + 10 * a) ov db us wr) (fun _ i _ => 6 - (intOf i).toNat)
  case atStart => exact ⟨0, [], [], by omega, rfl, Nat.le_refl _, HS0.out.mono (by omega)⟩
  case round =>
    obtain ⟨a, db, us, ha, rfl, hdl, hS⟩ := hrel
    clear HS0
    have HS := Lib.hid hS
    obtain ⟨oa, oc, rfl⟩ := own_slice hS.row.1
    clear hS
    by_cases ha6 : a < 6
    rotate_left
    · have t0 : decide ((a:Int) < 6) = false := decide_eq_false (by omega)
      go_wp2_with fail
      go_ret2
      exact ⟨⟨6, _, db, rfl, HS.out.row.own.at_, by omega⟩, by rw [HBB.out]; exact below_only HB3.out (by have := HBB.out; omega) (Nat.le_refl _) HS.out.gr⟩
    have t0 : decide ((a:Int) < 6) = true := decide_eq_true (by omega)
    have HN := Lib.hid (HS.out.new (a:Int) 1)
    have HP : Hid (Box ((wr.alloc (.cells #[] 43)).alloc (.cells #[.int .i64 (a:Int), .int .i64 1, .slice (some ⟨wr.heap.size, 0, none⟩) 0 0] 41)) (wr.heap.size + 1) #[.int .i64 (a:Int), .int .i64 1, .slice (some ⟨wr.heap.size, 0, none⟩) 0 0] 41) := Lib.hid (box_at _ _ _ (by simp))
    have hwr : x3.heap.size ≤ wr.heap.size := HS.out.le
    go_wp2_with fail
    obtain ⟨h0, hh0⟩ : ∃ h, wr.heap.size = h := ⟨_, rfl⟩
    obtain ⟨P, hP⟩ : ∃ P, wr.heap.size + 1 = P := ⟨_, rfl⟩
    have hPh : h0 ≤ P := by omega
    have hPB : P ≠ B := by omega
    obtain ⟨y0, hy0⟩ : ∃ Y, (wr.alloc (.cells #[] 43)).alloc (.cells #[.int .i64 (a:Int), .int .i64 1, .slice (some ⟨wr.heap.size, 0, none⟩) 0 0] 41) = Y := ⟨_, rfl⟩
    rw [hy0] at HN HP ⊢
    rw [hP] at HP ⊢
    rw [hh0] at HN HP hwr
    clear hy0 hP hh0 HS
    go_loopw [10] (fun j wq => True ∧ ∃ (b : Nat) (hv : Value) (es : List (Int × Int)), b ≤ 6 ∧ j = .int .i64 b ∧ es.length ≤ b ∧ DcT x3 B (500 + 10 * a + b) (.slice oa db.length oc) db us h0 hv es wq ∧ Box wq P #[.int .i64 (a:Int), .int .i64 1, hv] 41) (fun j _ => 6 - (intOf j).toNat)
    case atStart => exact ⟨trivial, 0, _, [], by omega, rfl, Nat.le_refl _, HN.out.mono (by omega), HP.out⟩
    case round =>
      obtain ⟨_, b, hv, es, hb, rfl, hel, hT, hPx⟩ := hrel
      clear HN HP
      have HT := Lib.hid hT; have HPX := Lib.hid hPx
      obtain ⟨ea, ec, rfl⟩ := own_slice hT.own.1
      clear hT hPx
      obtain ⟨p0, p1, p2, q0, q1, q2, hp0⟩ := box3 HPX.out
      by_cases hb6 : b < 6
      · have t1 : decide ((b:Int) < 6) = true := decide_eq_true (by omega)
        by_cases hab : a = b
        · have t2 : ((a:Int) != (b:Int)) = false := by simp; omega
          clear hab
          go_wp2_with fail
          go_roundw
          case rel => exact ⟨trivial, b + 1, _, es, by omega, by go_num, by omega, HT.out.mono (by omega), HPX.out⟩
          case measure => simp [intOf]; omega
        · have t2 : ((a:Int) != (b:Int)) = true := by simp; omega
          have ws : IntKind.i64.wrap ((a:Int) + (b:Int)) = (a:Int) + (b:Int) := IntWalk.i64_in _ (by omega)
          clear hab
          go_wp2_with fail
          apply pick_op
          · exact HT.out.rd
          · exact by omega
          intro y y4 y_0 y_1 hR hG
          replace HT := Lib.hid (HT.out.only hs3 hG hR)
          replace HPX := Lib.hid (HPX.out.only hG hPB)
          have wy : IntKind.i64.wrap (8 + y) = 8 + y := IntWalk.i64_in _ (by omega)
          clear hR hG p0 p1 p2 q0 q1 q2 hp0
          obtain ⟨p0, p1, p2, q0, q1, q2, hp0⟩ := box3 HPX.out
          by_cases hy : (a:Int) + (b:Int) < 8 + y
          · have t3 : decide ((a:Int) + (b:Int) < 8 + y) = true := decide_eq_true hy
            have hl0 := HT.out.lo
            have hbq : P < y4.heap.size := HPX.out.lt
            clear hy
            go_wp2_with (at_builtin; refine wpList_append_rd rfl _ _ _ rfl h0 43 j0 _ 2 16 Try.underlying39 HJ.out HY0.out HY1.out HY2.out rfl (by omega) (.slice ea es.length ec) es.length (cells2 es) rfl (HT.out.own.1.alloc _) (some ⟨y4.heap.size, 0, none⟩) 1 1 [.int .i64 (b:Int), .int .i64 1] rfl (srcAt_one (n := 1) (o := 2) (box_new y4 _ _) rfl) (by simp [Value.oneCell']) (by unfold maxLen; omega) (by omega) (by simp; omega) ?_; intro v' w4 hown hgrow hloc; obtain ⟨na, nc, hna⟩ := own_slice hown; subst hna; have O4 := (HPX.out.alloc (.cells #[.int .i64 (b:Int), .int .i64 1] 43)).grown hgrow (fun i hi e => box_own_ne HPX.out HT.out.own.1 (by decide) (by rw [hi, e])); have q4 := box3 O4)
            go_roundw
            case rel =>
              obtain ⟨s1, s2⟩ := HT.out.snoc hs3 HPX.out hPh hgrow hown
              exact ⟨trivial, b + 1, _, es ++ [((b:Int), 1)], by omega, by go_num, by simp; omega, s1.mono (by omega), s2⟩
            case measure => simp [intOf]; omega
          · have t3 : decide ((a:Int) + (b:Int) < 8 + y) = false := decide_eq_false hy
            clear hy
            go_wp2_with fail
            go_roundw
            case rel => exact ⟨trivial, b + 1, _, es, by omega, by go_num, by omega, HT.out.mono (by omega), HPX.out⟩
            case measure => simp [intOf]; omega
      · have t1 : decide ((b:Int) < 6) = false := decide_eq_false (by omega)
        have hl0 := HT.out.lo
        have hrw : ∀ j, (Value.slice oa db.length oc).ownBlock = some j → x3.heap.size ≤ j := fun j hj => (HT.out.row.lt j hj).1
        have HRW := Lib.hid hrw
        clear hrw
        obtain ⟨yy, hyy⟩ : ∃ X, X = wr := ⟨_, rfl⟩
        subst hyy
        go_wp2_with (at_builtin; refine wpList_append_rd rfl _ _ _ rfl x3.heap.size 41 i0 _ 3 40 Try.underlying29 HI.out HZ0.out HZ1.out HZ2.out rfl (by omega) (.slice oa db.length oc) db.length (cellsL db us) rfl (HT.out.row.alloc _) (some ⟨yy.heap.size, 0, none⟩) 1 1 [.int .i64 (a:Int), .int .i64 1, .slice ea es.length ec] rfl (srcAt_one (box_new yy _ _) rfl) (by simp [Value.oneCell']) (by unfold maxLen; omega) (by omega) (by simp; omega) ?_; intro v' w4 hown hgrow hloc)
        have hR4 := RowLs.snoc2 (o := (a:Int)) (s := 1) (es := es) HT.out.row HT.out.ends HT.out.own (by omega) (by omega) hown hgrow
        have hG5 := only_grown (only_alloc HT.out.gr _) hgrow (fun j hj => HRW.out j hj)
        have hR5 := rdLe_grown (rdLe_alloc HT.out.rd _) hgrow (fun j hj => by have := HRW.out j hj; omega)
        have HS5 : Hid (DcS x3 B (500 + 10 * a + b) v' (db ++ [((a:Int), 1, es)]) (us ++ [.slice ea es.length ec]) w4) := Lib.hid ⟨hR5, hR4, hG5, hG5.size⟩
        clear hR4 hG5 hR5 hgrow hown hloc HT HPX p0 p1 p2 q0 q1 q2 hp0
        go_wp2_with fail
        go_roundw
        case rel => exact ⟨a + 1, _, _, by omega, by go_num, by simp; omega, HS5.out.mono (by omega)⟩
        case measure => simp [intOf]; omega
end Go.Proofs.Ytnnkdoomjkccgaa
