/- The plain law of EpochGrants: a vote is given just in an epoch above the last one that was voted in, and not below the current one; for every three numbers of epochs and every number. -/
import Derived.Test.YtjlcaiijapjakaaPEpochGrantsx3
namespace Go.Proofs.Ytjlcaiijapjakaa.EpochGrantsPure
open Go.RowKit Go.Proofs.Ytjlcaiijapjakaa.PEpochGrants Go.Proofs.YtjlcaiijapjakaaW.PrintWords Go.Proofs.YtjlcaiijapjakaaW.PrintLast Go.Proofs.YtjlcaiijapjakaaW.PrintMore

/-- Epochs are right. -/
def R (a b c : Int) : Prop := 0 ≤ b ∧ 0 ≤ c ∧ b ≤ a ∧ c ≤ a ∧ a ≤ 281474976710656
/-- A number is one of an epoch. -/
def Q (n : Int) : Prop := 0 ≤ n ∧ n ≤ 281474976710656
theorem right_pos {a b c : Int} (h : R a b c) : epoch_Epochs_Right.f a b c = some true := by
  unfold R at h; unfold epoch_Epochs_Right.f mn mx; grind
theorem right_neg {a b c : Int} (h : ¬ R a b c) : epoch_Epochs_Right.f a b c = some false := by
  unfold R at h; unfold epoch_Epochs_Right.f mn mx; grind
theorem asked_pos {a b c n : Int} (h : R a b c) (hn : Q n) : epoch_Epochs_asked.f a b c n = some 0 := by
  unfold epoch_Epochs_asked.f; rw [right_pos h]; unfold Q at hn; grind
theorem asked_neg {a b c n : Int} (h : ¬ (R a b c ∧ Q n)) : epoch_Epochs_asked.f a b c n = some 10 := by
  unfold epoch_Epochs_asked.f
  by_cases hr : R a b c
  · rw [right_pos hr]; have hn : ¬ Q n := fun x => h ⟨hr, x⟩; unfold Q at hn; grind
  · rw [right_neg hr]; grind
theorem anchor_true : grapevinelaw06_anchor.f = some true := by decide +kernel

theorem lright_pos {a b c : Int} (h : R a b c) : grapevinelaw06_right.f a b c = some true := by
  unfold R at h; unfold grapevinelaw06_right.f; grind
theorem lright_neg {a b c : Int} (h : ¬ R a b c) : grapevinelaw06_right.f a b c = some false := by
  unfold R at h; unfold grapevinelaw06_right.f; grind

theorem num_pos {n : Int} (h : Q n) : grapevinelaw06_num.f n = some true := by
  unfold Q at h; unfold grapevinelaw06_num.f; grind
theorem num_neg {n : Int} (h : ¬ Q n) : grapevinelaw06_num.f n = some false := by
  unfold Q at h; unfold grapevinelaw06_num.f; grind

theorem grant_neg {a b c n : Int} (h : ¬ (R a b c ∧ Q n)) : epoch_Epochs_Grant.f a b c n = some (0, 0, 0, 10) := by
  unfold epoch_Epochs_Grant.f; rw [asked_neg h]; rfl
theorem grant_old {a b c n : Int} (h : R a b c) (hn : Q n) (ho : n ≤ b ∨ n < a) : epoch_Epochs_Grant.f a b c n = some (0, 0, 0, 22) := by
  unfold epoch_Epochs_Grant.f; rw [asked_pos h hn]; grind
theorem grant_pos {a b c n : Int} (h : R a b c) (hn : Q n) (ho : ¬ (n ≤ b ∨ n < a)) : epoch_Epochs_Grant.f a b c n = some (n, n, c, 0) := by
  unfold epoch_Epochs_Grant.f; rw [asked_pos h hn]; grind

theorem law (a b c n : Int) : grapevinelaw06_EpochGrants.f 1 a b c n = some true := by
  unfold grapevinelaw06_EpochGrants.f; rw [anchor_true]
  by_cases h : R a b c
  · rw [lright_pos h]
    by_cases hn : Q n
    · rw [num_pos hn]
      by_cases ho : n ≤ b ∨ n < a
      · rw [grant_old h hn ho]; simp only [grapevinelaw06_EpochGrants.j0, Option.bind_some]; grind
      · have h2 : R n n c := by unfold R Q at *; omega
        rw [grant_pos h hn ho]; simp only [grapevinelaw06_EpochGrants.j0, Option.bind_some]; rw [grant_old h2 hn (.inl (Int.le_refl n))]; grind
    · rw [num_neg hn, grant_neg (fun x => hn x.2)]; simp only [grapevinelaw06_EpochGrants.j0, Option.bind_some]; grind
  · rw [grant_neg (fun x => h x.1), lright_neg h]; simp only [grapevinelaw06_EpochGrants.j0, Option.bind_some]; grind

end Go.Proofs.Ytjlcaiijapjakaa.EpochGrantsPure
