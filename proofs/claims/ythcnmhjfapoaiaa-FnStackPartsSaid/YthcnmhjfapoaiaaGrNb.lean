/- The neighbours of a node, as data. No program in sight. -/
import Derived.Test.YthcnmhjfapoaiaaGrCr
namespace Go.Proofs.Ythcnmhjfapoaiaa
set_option linter.unusedSimpArgs false
set_option linter.unusedVariables false

def nbF (a : Int) (l : LinkD) : Option Int := otherEnd l a
def nbC (ls : List LinkD) (a : Int) : List Int := ls.filterMap (nbF a)
def nbL (n : Int) (ls : List LinkD) (a : Int) : List Int := (nodesL n.toNat).filter (fun m => decide (0 < cstL ls a m))
theorem nbC_snoc {ls : List LinkD} {k : Nat} {l : LinkD} (a : Int) (h : ls[k]? = some l) : nbC (ls.take (k + 1)) a = nbC (ls.take k) a ++ (otherEnd l a).toList := by
  obtain ⟨h1, h2⟩ := List.getElem?_eq_some_iff.1 h
  unfold nbC
  rw [List.take_succ_eq_append_getElem h1, h2, List.filterMap_append]
  cases ho : otherEnd l a <;> simp [nbF, ho]
section
variable {n : Int} {ls : List LinkD} (h : GOk n ls)
include h
theorem mem_nbC {a z : Int} : z ∈ nbC ls a ↔ 0 < cstL ls a z := by
  unfold nbC
  rw [List.mem_filterMap]
  constructor
  · rintro ⟨l, hl, ho⟩
    obtain ⟨k, hk⟩ := List.getElem?_of_mem hl
    have hb := h.link k l hk
    have he := (otherEnd_iff (by omega)).1 ho
    have := ends_cost h hk (x := a) (y := z) he
    omega
  · intro hp
    obtain ⟨k, l, h1, h2, h3, h4⟩ := lk_ends h hp
    have hb := h.link k l h2
    exact ⟨l, List.mem_of_getElem? h2, (otherEnd_iff (by omega)).2 h3⟩
theorem nbC_nd {a z : Int} (hz : z ∈ nbC ls a) : nd n.toNat z := by
  have := (mem_nbC h).1 hz
  exact (h.fits.ok.node a z this).2
theorem nbC_nodup (a : Int) : (nbC ls a).Nodup := by
  unfold nbC
  have hp : ls.Pairwise (fun l l' => ∀ z, otherEnd l a = some z → otherEnd l' a ≠ some z) := by
    rw [List.pairwise_iff_getElem]
    intro i j hi hj hij z h1 h2
    have e1 : ls[i]? = some ls[i] := List.getElem?_eq_getElem hi
    have e2 : ls[j]? = some ls[j] := List.getElem?_eq_getElem hj
    have l1 := h.link i _ e1
    have l2 := h.link j _ e2
    have he1 := (otherEnd_iff (by omega)).1 h1
    have he2 := (otherEnd_iff (by omega)).1 h2
    have c1 := ends_cost h e1 (x := a) (y := z) he1
    have c2 := ends_cost h e2 (x := a) (y := z) he2
    have := c1.2.2.2.2.symm.trans c2.2.2.2.2
    omega
  clear h
  induction ls with
  | nil => simp
  | cons l ls ih =>
    rw [List.pairwise_cons] at hp
    rw [List.filterMap_cons]
    split
    · exact ih hp.2
    · rename_i z hz
      rw [List.nodup_cons]
      refine ⟨fun hm => ?_, ih hp.2⟩
      obtain ⟨l', hl', ho⟩ := List.mem_filterMap.1 hm
      exact hp.1 l' hl' z hz ho
theorem nbC_len (a : Int) : (nbC ls a).length ≤ 8 := by
  have := nodup_len n.toNat (nbC ls a) (nbC_nodup h a) (fun x hx => nbC_nd h hx)
  have := h.n8
  omega
theorem mem_nbL {a z : Int} : z ∈ nbL n ls a ↔ 0 < cstL ls a z := by
  unfold nbL
  rw [List.mem_filter, mem_nodesL]
  constructor
  · rintro ⟨_, h2⟩; simpa using h2
  · intro hp; exact ⟨(h.fits.ok.node a z hp).2, by simpa using hp⟩
end
theorem nodesL_asc (N : Nat) : (nodesL N).Pairwise (· < ·) := by
  unfold nodesL
  rw [List.pairwise_map]
  exact List.pairwise_lt_range.imp (fun h => by simpa using h)
theorem nbL_asc (n : Int) (ls : List LinkD) (a : Int) : (nbL n ls a).Pairwise (· < ·) := (nodesL_asc _).sublist List.filter_sublist
theorem nbC_take_len {ls : List LinkD} (a : Int) (k : Nat) : (nbC (ls.take k) a).length ≤ k := by
  unfold nbC
  exact Nat.le_trans (List.length_filterMap_le _ _) (by rw [List.length_take]; exact Nat.min_le_left _ _)
end Go.Proofs.Ythcnmhjfapoaiaa
