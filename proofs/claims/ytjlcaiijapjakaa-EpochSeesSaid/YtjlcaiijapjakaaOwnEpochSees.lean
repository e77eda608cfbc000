/- The plain law of EpochSees: epochs are right just if the document says so, and an epoch that is seen is taken over if it is greater; for every three numbers of epochs and every number. -/
import Derived.Test.YtjlcaiijapjakaaPEpochSeesx4
namespace Go.Proofs.Ytjlcaiijapjakaa.EpochSeesPure
open Go.RowKit Go.Proofs.Ytjlcaiijapjakaa.PEpochSees Go.Proofs.YtjlcaiijapjakaaW.PrintWords Go.Proofs.YtjlcaiijapjakaaW.PrintLast Go.Proofs.YtjlcaiijapjakaaW.PrintMore

/-- Epochs are right. -/
def R (a b c : Int) : Prop := 0 ≤ b ∧ 0 ≤ c ∧ b ≤ a ∧ c ≤ a ∧ a ≤ 281474976710656
/-- A number is one of an epoch. -/
def Q (n : Int) : Prop := 0 ≤ n ∧ n ≤ 281474976710656
theorem right_pos {a b c : Int} (h : R a b c) : epoch_Epochs_Right.f a b c = some true := by
  unfold R at h; unfold epoch_Epochs_Right.f mn mx; grind
theorem right_neg {a b c : Int} (h : ¬ R a b c) : epoch_Epochs_Right.f a b c = some false := by
  unfold R at h; unfold epoch_Epochs_Right.f mn mx; grind
theorem asked_pos {a b c n : Int} (h : R a b c) (hn : Q n) : epoch_Epochs_asked.f a b c n = some 0 := by
  unfold epoch_Epochs_asked.f; rw [right_pos h]; unfold Q at hn; grind
theorem asked_neg {a b c n : Int} (h : ¬ (R a b c ∧ Q n)) : epoch_Epochs_asked.f a b c n = some 10 := by
  unfold epoch_Epochs_asked.f
  by_cases hr : R a b c
  · rw [right_pos hr]; have hn : ¬ Q n := fun x => h ⟨hr, x⟩; unfold Q at hn; grind
  · rw [right_neg hr]; grind
theorem anchor_true : grapevinelaw06_anchor.f = some true := by decide +kernel

theorem lright_pos {a b c : Int} (h : R a b c) : grapevinelaw06_right.f a b c = some true := by
  unfold R at h; unfold grapevinelaw06_right.f; grind
theorem lright_neg {a b c : Int} (h : ¬ R a b c) : grapevinelaw06_right.f a b c = some false := by
  unfold R at h; unfold grapevinelaw06_right.f; grind

theorem num_pos {n : Int} (h : Q n) : grapevinelaw06_num.f n = some true := by
  unfold Q at h; unfold grapevinelaw06_num.f; grind
theorem num_neg {n : Int} (h : ¬ Q n) : grapevinelaw06_num.f n = some false := by
  unfold Q at h; unfold grapevinelaw06_num.f; grind

theorem see_pos {a b c n : Int} (h : R a b c) (hn : Q n) : epoch_Epochs_See.f a b c n = some (mx a n, b, c, 0) := by
  unfold epoch_Epochs_See.f; rw [asked_pos h hn]; rfl
theorem see_neg {a b c n : Int} (h : ¬ (R a b c ∧ Q n)) : epoch_Epochs_See.f a b c n = some (0, 0, 0, 10) := by
  unfold epoch_Epochs_See.f; rw [asked_neg h]; rfl

theorem law (a b c n : Int) : grapevinelaw06_EpochSees.f a b c n = some true := by
  unfold grapevinelaw06_EpochSees.f; rw [anchor_true]
  by_cases h : R a b c
  · by_cases hn : Q n
    · rw [see_pos h hn, right_pos h, lright_pos h, num_pos hn]; grind
    · rw [see_neg (fun x => hn x.2), right_pos h, lright_pos h, num_neg hn]; grind
  · rw [see_neg (fun x => h x.1), right_neg h, lright_neg h]; grind

end Go.Proofs.Ytjlcaiijapjakaa.EpochSeesPure
