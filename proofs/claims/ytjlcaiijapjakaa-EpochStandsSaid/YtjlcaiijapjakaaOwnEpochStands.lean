/- The plain law of EpochStands: to stand takes the next epoch, to bump gives it to one's own slots too, and past the greatest there is none; for every three numbers of epochs. -/
import Derived.Test.YtjlcaiijapjakaaQEpochStandsc
namespace Go.Proofs.Ytjlcaiijapjakaa.EpochStandsPure
open Go.RowKit Go.Proofs.Ytjlcaiijapjakaa.QEpochStands Go.Proofs.YtjlcaiijapjakaaW.PrintWords Go.Proofs.YtjlcaiijapjakaaW.PrintLast Go.Proofs.YtjlcaiijapjakaaW.PrintMore

/-- Epochs are right. -/
def R (a b c : Int) : Prop := 0 ≤ b ∧ 0 ≤ c ∧ b ≤ a ∧ c ≤ a ∧ a ≤ 281474976710656
/-- A number is one of an epoch. -/
def Q (n : Int) : Prop := 0 ≤ n ∧ n ≤ 281474976710656
theorem right_pos {a b c : Int} (h : R a b c) : epoch_Epochs_Right.f a b c = some true := by
  unfold R at h; unfold epoch_Epochs_Right.f mn mx; grind
theorem right_neg {a b c : Int} (h : ¬ R a b c) : epoch_Epochs_Right.f a b c = some false := by
  unfold R at h; unfold epoch_Epochs_Right.f mn mx; grind
theorem asked_pos {a b c n : Int} (h : R a b c) (hn : Q n) : epoch_Epochs_asked.f a b c n = some 0 := by
  unfold epoch_Epochs_asked.f; rw [right_pos h]; unfold Q at hn; grind
theorem asked_neg {a b c n : Int} (h : ¬ (R a b c ∧ Q n)) : epoch_Epochs_asked.f a b c n = some 10 := by
  unfold epoch_Epochs_asked.f
  by_cases hr : R a b c
  · rw [right_pos hr]; have hn : ¬ Q n := fun x => h ⟨hr, x⟩; unfold Q at hn; grind
  · rw [right_neg hr]; grind
theorem anchor_true : grapevinelaw06_anchor.f = some true := by decide +kernel

theorem lright_pos {a b c : Int} (h : R a b c) : grapevinelaw06_right.f a b c = some true := by
  unfold R at h; unfold grapevinelaw06_right.f; grind
theorem lright_neg {a b c : Int} (h : ¬ R a b c) : grapevinelaw06_right.f a b c = some false := by
  unfold R at h; unfold grapevinelaw06_right.f; grind

theorem stand_neg {a b c : Int} (h : ¬ R a b c) : epoch_Epochs_Stand.f a b c = some (0, 0, 0, 10) := by
  unfold epoch_Epochs_Stand.f; rw [right_neg h]; rfl
theorem stand_big {a b c : Int} (h : R a b c) (ha : a = 281474976710656) : epoch_Epochs_Stand.f a b c = some (0, 0, 0, 12) := by
  unfold epoch_Epochs_Stand.f; rw [right_pos h]; grind
theorem wrap_succ {a b c : Int} (h : R a b c) : wrap64 (a + 1) = a + 1 := by
  unfold R at h; unfold wrap64; omega
theorem stand_pos {a b c : Int} (h : R a b c) (ha : ¬ a = 281474976710656) : epoch_Epochs_Stand.f a b c = some (a + 1, b, c, 0) := by
  unfold epoch_Epochs_Stand.f; rw [right_pos h, wrap_succ h]; grind

theorem bump_neg {a b c : Int} (h : ¬ R a b c) : epoch_Epochs_Bump.f a b c = some (0, 0, 0, 10) := by
  unfold epoch_Epochs_Bump.f; rw [stand_neg h]; rfl
theorem bump_big {a b c : Int} (h : R a b c) (ha : a = 281474976710656) : epoch_Epochs_Bump.f a b c = some (0, 0, 0, 12) := by
  unfold epoch_Epochs_Bump.f; rw [stand_big h ha]; rfl
theorem bump_pos {a b c : Int} (h : R a b c) (ha : ¬ a = 281474976710656) : epoch_Epochs_Bump.f a b c = some (a + 1, b, a + 1, 0) := by
  unfold epoch_Epochs_Bump.f; rw [stand_pos h ha]; rfl

theorem law (a b c : Int) : grapevinelaw06_EpochStands.f a b c = some true := by
  unfold grapevinelaw06_EpochStands.f; rw [anchor_true]
  by_cases h : R a b c
  · rw [lright_pos h, wrap_succ h]
    by_cases ha : a = 281474976710656
    · rw [stand_big h ha, bump_big h ha]; grind
    · rw [stand_pos h ha, bump_pos h ha]; grind
  · rw [stand_neg h, bump_neg h, lright_neg h]; grind

end Go.Proofs.Ytjlcaiijapjakaa.EpochStandsPure
