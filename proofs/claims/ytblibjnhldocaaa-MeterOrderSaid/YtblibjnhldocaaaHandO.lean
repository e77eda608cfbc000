/- MeterOrder's plain law: acts in any order come to the same counts and mark. -/
import Derived.Test.YtblibjnhldocaaaHandL
namespace Go.Proofs.Ytblibjnhldocaaa.HandM
open Go.RowKit
set_option linter.unusedVariables false
set_option linter.unusedSimpArgs false
theorem counted_comm (cs : List Int) (k n k' n' : Int) : counted (counted cs k n) k' n' = counted (counted cs k' n') k n := by
  unfold counted
  by_cases h : okC k n
  · by_cases h' : okC k' n'
    · rw [if_pos h, if_pos h', if_pos h, if_pos h']
      by_cases e : k.toNat = k'.toNat
      · rw [e]
        by_cases hl : k'.toNat < cs.length
        · rw [getD_set _ _ _ _ hl, getD_set _ _ _ _ hl, if_pos rfl, if_pos rfl, List.set_set, List.set_set]
          congr 1
          omega
        · have hs : ∀ y, cs.set k'.toNat y = cs := fun y => List.set_eq_of_length_le (by omega)
          simp only [hs]
      · have g1 : ∀ (y : Int) (i j : Nat), i ≠ j → (cs.set i y).getD j 0 = cs.getD j 0 := fun y i j hij => by
          rw [List.getD_eq_getElem?_getD, List.getD_eq_getElem?_getD, List.getElem?_set_ne hij]
        rw [g1 _ _ _ e, g1 _ _ _ (Ne.symm e), List.set_comm _ _ e]
    · rw [if_pos h, if_neg h', if_neg h', if_pos h]
  · rw [if_neg h, if_neg h]
def stepA (s : List Int × Int) (a : ActT) : List Int × Int := if a.how = 1 then (counted s.1 a.kind a.n, s.2) else (s.1, max s.2 a.n)
theorem stepA_comm (s : List Int × Int) (a b : ActT) : stepA (stepA s a) b = stepA (stepA s b) a := by
  unfold stepA
  by_cases ha : a.how = 1
  · by_cases hb : b.how = 1
    · simp only [ha, hb, if_true]
      rw [counted_comm]
    · simp only [ha, hb, if_true, if_false]
  · by_cases hb : b.how = 1
    · simp only [ha, hb, if_true, if_false]
    · simp only [ha, hb, if_false]
      congr 1
      omega
def runA (l : List ActT) : List Int × Int := l.foldl stepA (zeros, 0)
theorem run_rotated (l : List ActT) (k : Nat) : runA (l.drop k ++ l.take k) = runA l := by
  unfold runA
  have hp : (l.drop k ++ l.take k).Perm l := List.perm_append_comm.trans (by rw [List.take_append_drop])
  exact hp.foldl_eq' (fun x _ y _ z => stepA_comm z x y) _
end Go.Proofs.Ytblibjnhldocaaa.HandM
