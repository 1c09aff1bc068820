/- Plain functions and lemmas on lists. No program in sight. -/
import Derived.Test.YthcnmhjfapoaiaaPre
namespace Go.Proofs.Ythcnmhjfapoaiaa
set_option linter.unusedSimpArgs false
set_option linter.unusedVariables false

def allUpTo (n : Nat) (p : Nat → Bool) : Bool := (List.range n).all p
theorem all_bad {n : Nat} {p : Nat → Bool} {k : Nat} (hk : k < n) (h : p k = false) : allUpTo n p = false := by
  unfold allUpTo; rw [List.all_eq_false]; exact ⟨k, by simpa using hk, by simp [h]⟩
theorem all_good {n : Nat} {p : Nat → Bool} (h : ∀ j, j < n → p j = true) : allUpTo n p = true := by
  unfold allUpTo; rw [List.all_eq_true]; intro j hj; exact h j (by simpa using hj)
theorem all_iff {n : Nat} {p : Nat → Bool} : allUpTo n p = true ↔ ∀ j, j < n → p j = true := by
  unfold allUpTo; rw [List.all_eq_true]; exact ⟨fun h j hj => h j (by simpa using hj), fun h j hj => h j (by simpa using hj)⟩
/-- One round more of a scan. -/
theorem upto_succ {p : Nat → Bool} {k : Nat} (h : ∀ j, j < k → p j = true) (hk : p k = true) : ∀ j, j < k + 1 → p j = true := fun j hj => by
  rcases Nat.lt_or_ge j k with h1 | h1
  · exact h j h1
  · obtain rfl : j = k := by omega
    exact hk

def hasI (xs : List Int) (n : Int) : Bool := xs.any fun x => x == n
theorem has_yes {xs : List Int} {n x : Int} {k : Nat} (h : xs[k]? = some x) (hx : (x == n) = true) : hasI xs n = true := by
  unfold hasI; rw [List.any_eq_true]; exact ⟨x, List.mem_of_getElem? h, hx⟩
theorem has_no {xs : List Int} {n : Int} (h : ∀ j, j < xs.length → ∀ x, xs[j]? = some x → (x == n) = false) : hasI xs n = false := by
  unfold hasI; rw [List.any_eq_false]; intro x hx
  obtain ⟨j, hj⟩ := List.getElem?_of_mem hx
  have hl : j < xs.length := (List.getElem?_eq_some_iff.1 hj).1
  rw [h j hl x hj]; simp

def nodeOk (xs : List Int) (k : Nat) : Bool :=
  match xs[k]? with
  | none => true
  | some x => inB x 0 7 && (k == 0 || !decide (x ≤ xs.getD (k-1) 0))
def nodesOk (xs : List Int) : Bool := allUpTo xs.length (nodeOk xs)
theorem nodeOk_at {xs : List Int} {k : Nat} {x : Int} (h : xs[k]? = some x) : nodeOk xs k = (inB x 0 7 && (k == 0 || !decide (x ≤ xs.getD (k-1) 0))) := by simp [nodeOk, h]
theorem getD_of {α : Type} {xs : List α} {k : Nat} {x d : α} (h : xs[k]? = some x) : xs.getD k d = x := by rw [List.getD_eq_getElem?_getD, h]; rfl

def endOk (o : Int) (es : List (Int × Int)) (k : Nat) : Bool :=
  match es[k]? with
  | none => true
  | some (x, y) => inB x 0 7 && !(x == o) && inB y 1 20 && (k == 0 || !decide (x ≤ (es.getD (k-1) (0,0)).1))
def lsaOk (o s : Int) (es : List (Int × Int)) : Bool := inB o 0 7 && inB s 1 99 && allUpTo es.length (endOk o es)
theorem endOk_at {o : Int} {es : List (Int × Int)} {k : Nat} {x y : Int} (h : es[k]? = some (x, y)) : endOk o es k = (inB x 0 7 && !(x == o) && inB y 1 20 && (k == 0 || !decide (x ≤ (es.getD (k-1) (0,0)).1))) := by simp [endOk, h]

def dbRowOk (db : List LsaD) (k : Nat) : Bool :=
  match db[k]? with
  | none => true
  | some (o, s, es) => lsaOk o s es && (k == 0 || !decide (o ≤ (db.getD (k-1) (0,0,[])).1))
def dbOk (db : List LsaD) : Bool := allUpTo db.length (dbRowOk db)
theorem dbRowOk_at {db : List LsaD} {k : Nat} {o s : Int} {es : List (Int × Int)} (h : db[k]? = some (o, s, es)) : dbRowOk db k = (lsaOk o s es && (k == 0 || !decide (o ≤ (db.getD (k-1) (0,0,[])).1))) := by simp [dbRowOk, h]
end Go.Proofs.Ythcnmhjfapoaiaa
