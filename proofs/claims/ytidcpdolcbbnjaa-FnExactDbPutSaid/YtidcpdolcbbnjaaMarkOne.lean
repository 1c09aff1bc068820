/- markLsa; the size of what is stored and merged. -/
import Derived.Test.YtidcpdolcbbnjaaHeld
import Derived.Test.YtidcpdolcbbnjaaSz
import Derived.Test.YtidcpdolcbbnjaaMerge
namespace Go.Proofs.Ytidcpdolcbbnjaa
open Go.RowKit

/-- What stands behind several orders is shown once. -/
theorem cut_ {S G : Prop} (main : Hid S → G) (pf : S) : G := main (Lib.hid pf)
theorem endK_eq : ∀ (db : List LsaD) (k : Int), endK k db = k + 2 * db.length + 2 * totalL db
  | [], k => by simp [endK, totalL]
  | d :: db, k => by simp only [endK, endK_eq db, totalL, List.length_cons]; push_cast; omega
theorem totalL_8 : ∀ (db : List LsaD), (∀ d ∈ db, d.2.2.length ≤ 8) → totalL db ≤ 8 * db.length
  | [], _ => by simp [totalL]
  | d :: db, h => by
    have := totalL_8 db fun x hx => h x (by simp [hx])
    have := h d (by simp)
    simp only [totalL, List.length_cons]
    omega
theorem endK_ok {db : List LsaD} (h : dbOk db = true ∨ db = []) : endK 1 db ≤ 1000 := by
  rcases h with h | h
  · have h1 := totalL_8 db fun d hd => lsaOk_len (ok_mem h hd)
    have h2 := dbOk_len h
    rw [endK_eq]
    omega
  · subst h; simp [endK]
theorem putOf_ok_or (db : List LsaD) (l : LsaD) : dbOk (putOf db l).1 = true ∨ (putOf db l).1 = [] := by
  rcases Bool.eq_false_or_eq_true (dbOk db && lsaOk l.1 l.2.1 l.2.2) with h | h
  · have h' := h
    simp only [Bool.and_eq_true] at h'
    exact .inl (by rw [putOf_ok h'.1 h'.2]; exact putD_ok h'.1 h'.2)
  · exact .inr (by rw [putOf_bad h])
theorem mergeOf_ok_or (db ob : List LsaD) : dbOk (mergeOf db ob).1 = true ∨ (mergeOf db ob).1 = [] := by
  rcases Bool.eq_false_or_eq_true (dbOk db && dbOk ob) with h | h
  · have h' := h
    simp only [Bool.and_eq_true] at h'
    exact .inl (by rw [mergeOf_ok h'.1 h'.2]; exact mergeD_ok h'.1 fun d hd => ok_mem h'.2 hd)
  · exact .inr (by rw [mergeOf_bad h])
theorem markLsa_any (lo hi : Nat) (o s : Int) (v : Value) (n : Nat) (xs : List Value) (k : Int) (w : World) (h : OwnR w lo hi 69 2 v n xs) (hk : 0 ≤ k) (hk1 : k + 2 * n ≤ 1000000000000) : Calls Try.prog 38 #[.agg #[.int .i64 o, .int .i64 s, v], .int .i64 k] w fun e w' => e = .returned (.int .i64 (k + 2 * n)) ∧ Btw lo hi w w' := by
  obtain ⟨a, c, rfl⟩ := own_slice h.1
  have H := Lib.hid (h.alloc (.cells #[.int .i64 o, .int .i64 s, .slice a n c] 26))
  have HL := Lib.hid h.lt
  clear h
  go_enter Try.func38, Try.ntmps38
  go_wp2_with fail
  refine (markEndS_any lo hi _ n xs k _ H.out hk hk1).mono ?_
  rintro e w1 ⟨rfl, hO, hg⟩
  have hb : Btw lo hi w w1 := (Btw.of_below ((Below.refl _ w).alloc (Nat.le_refl _) _)).trans (Btw.grown hg fun g hg' => by have := HL.out g hg'; omega)
  have HB := Lib.hid hb
  clear hO hg hb
  go_wp2_with fail
  go_ret
  exact ⟨rfl, HB.out⟩
end Go.Proofs.Ytidcpdolcbbnjaa
