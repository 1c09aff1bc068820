/- Plain: what storing an announcement gives. No program in sight. -/
import Derived.Test.YtnnkdoomjkccgaaPureDb
namespace Go.Proofs.Ytnnkdoomjkccgaa
set_option linter.unusedSimpArgs false
set_option linter.unusedVariables false

/-- The announcements with one stored that is newer than what is there. -/
def insD (db : List LsaD) (l : LsaD) : List LsaD := db.filter (fun d => decide (d.1 < l.1)) ++ l :: db.filter (fun d => decide (l.1 < d.1))
/-- Storing a valid announcement in a valid list. -/
def putD (db : List LsaD) (l : LsaD) : List LsaD × Int :=
  match findD db l.1 with
  | some old => if old.2.1 = l.2.1 then (db, 1) else if l.2.1 < old.2.1 then (db, 2) else (insD db l, 0)
  | none => (insD db l, 0)
def putOf (db : List LsaD) (l : LsaD) : List LsaD × Int := if dbOk db && lsaOk l.1 l.2.1 l.2.2 then putD db l else ([], 3)
theorem putOf_bad {db : List LsaD} {l : LsaD} (h : (dbOk db && lsaOk l.1 l.2.1 l.2.2) = false) : putOf db l = ([], 3) := by simp [putOf, h]
theorem putOf_ok {db : List LsaD} {l : LsaD} (h : dbOk db = true) (h2 : lsaOk l.1 l.2.1 l.2.2 = true) : putOf db l = putD db l := by simp [putOf, h, h2]
theorem putD_same {db : List LsaD} {l old : LsaD} (h : findD db l.1 = some old) (hs : old.2.1 = l.2.1) : putD db l = (db, 1) := by simp [putD, h, hs]
theorem putD_older {db : List LsaD} {l old : LsaD} (h : findD db l.1 = some old) (hs : l.2.1 < old.2.1) : putD db l = (db, 2) := by
  have : old.2.1 ≠ l.2.1 := by omega
  simp [putD, h, hs, this]
theorem putD_newer {db : List LsaD} {l old : LsaD} (h : findD db l.1 = some old) (hs : old.2.1 < l.2.1) : putD db l = (insD db l, 0) := by
  have h1 : old.2.1 ≠ l.2.1 := by omega
  have h2 : ¬ l.2.1 < old.2.1 := by omega
  simp [putD, h, h1, h2]
theorem putD_new {db : List LsaD} {l : LsaD} (h : findD db l.1 = none) : putD db l = (insD db l, 0) := by simp [putD, h]
/-- In a list in order, what is smaller stands ahead. -/
theorem filter_lt_take {db : List LsaD} {o : Int} {i : Nat} (h1 : ∀ (k : Nat) (d : LsaD), k < i → db[k]? = some d → d.1 < o) (h2 : ∀ (k : Nat) (d : LsaD), i ≤ k → db[k]? = some d → ¬ d.1 < o) : db.filter (fun d => decide (d.1 < o)) = db.take i := by
  have e : db = db.take i ++ db.drop i := (List.take_append_drop i db).symm
  have ha : (db.take i).filter (fun d => decide (d.1 < o)) = db.take i := by
    rw [List.filter_eq_self]
    intro d hd
    obtain ⟨k, hk⟩ := List.getElem?_of_mem hd
    rw [List.getElem?_take] at hk
    split at hk
    · rename_i hki; simpa using h1 k d hki hk
    · cases hk
  have hb : (db.drop i).filter (fun d => decide (d.1 < o)) = [] := by
    rw [List.filter_eq_nil_iff]
    intro d hd
    obtain ⟨k, hk⟩ := List.getElem?_of_mem hd
    rw [List.getElem?_drop] at hk
    simpa using h2 (i + k) d (by omega) hk
  calc db.filter (fun d => decide (d.1 < o)) = (db.take i ++ db.drop i).filter (fun d => decide (d.1 < o)) := by rw [← e]
    _ = db.take i := by rw [List.filter_append, ha, hb, List.append_nil]
theorem filter_snoc {db : List LsaD} {p : LsaD → Bool} {k : Nat} {d : LsaD} (h : db[k]? = some d) : (db.take (k + 1)).filter p = if p d = true then (db.take k).filter p ++ [d] else (db.take k).filter p := by
  obtain ⟨hl, he⟩ := List.getElem?_eq_some_iff.1 h
  rw [List.take_succ_eq_append_getElem hl, he, List.filter_append]
  by_cases hb : p d = true
  · simp [hb]
  · simp [hb]
end Go.Proofs.Ytnnkdoomjkccgaa
