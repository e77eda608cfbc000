/- The plain law of EpochYields: of two masters with one epoch just one must bump, with two epochs none; for every four whole numbers. -/
import Derived.Test.YtjlcaiijapjakaaPEpochYieldsx3
namespace Go.Proofs.Ytjlcaiijapjakaa.EpochYieldsPure
open Go.RowKit Go.Proofs.Ytjlcaiijapjakaa.PEpochYields Go.Proofs.YtjlcaiijapjakaaW.PrintWords Go.Proofs.YtjlcaiijapjakaaW.PrintLast Go.Proofs.YtjlcaiijapjakaaW.PrintMore

/-- Epochs are right. -/
def R (a b c : Int) : Prop := 0 ≤ b ∧ 0 ≤ c ∧ b ≤ a ∧ c ≤ a ∧ a ≤ 281474976710656
/-- A number is one of an epoch. -/
def Q (n : Int) : Prop := 0 ≤ n ∧ n ≤ 281474976710656
theorem right_pos {a b c : Int} (h : R a b c) : epoch_Epochs_Right.f a b c = some true := by
  unfold R at h; unfold epoch_Epochs_Right.f mn mx; grind
theorem right_neg {a b c : Int} (h : ¬ R a b c) : epoch_Epochs_Right.f a b c = some false := by
  unfold R at h; unfold epoch_Epochs_Right.f mn mx; grind
theorem asked_pos {a b c n : Int} (h : R a b c) (hn : Q n) : epoch_Epochs_asked.f a b c n = some 0 := by
  unfold epoch_Epochs_asked.f; rw [right_pos h]; unfold Q at hn; grind
theorem asked_neg {a b c n : Int} (h : ¬ (R a b c ∧ Q n)) : epoch_Epochs_asked.f a b c n = some 10 := by
  unfold epoch_Epochs_asked.f
  by_cases hr : R a b c
  · rw [right_pos hr]; have hn : ¬ Q n := fun x => h ⟨hr, x⟩; unfold Q at hn; grind
  · rw [right_neg hr]; grind
theorem anchor_true : grapevinelaw06_anchor.f = some true := by decide +kernel

theorem law (a0 a1 a2 a3 : Int) : grapevinelaw06_EpochYields.f a0 a1 a2 a3 = some true := by
  unfold grapevinelaw06_EpochYields.f; rw [anchor_true]; unfold epoch_Yields.f
  by_cases h : a2 = a3
  · subst h
    by_cases k : a0 = a1
    · subst k; simp
    · rcases Int.lt_or_lt_of_ne k with l | l
      · have l2 : ¬ a1 < a0 := by omega
        simp [k, l, l2]
      · have l2 : ¬ a0 < a1 := by omega
        simp [k, l, l2]
  · have h2 : ¬ a3 = a2 := fun x => h x.symm
    simp [h, h2]

end Go.Proofs.Ytjlcaiijapjakaa.EpochYieldsPure
