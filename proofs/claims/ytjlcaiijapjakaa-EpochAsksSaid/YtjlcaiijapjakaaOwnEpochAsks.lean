/- The plain law of EpochAsks: who stands in an epoch that nobody has voted in is granted it by all whose epochs it is above; nobody who has granted it grants it again, to whomever; for every three numbers of a candidate and every list of voters. -/
import Derived.Test.YtjlcaiijapjakaaPEpochAsksx4
namespace Go.Proofs.Ytjlcaiijapjakaa.EpochAsksPure
open Go.RowKit Go.Proofs.Ytjlcaiijapjakaa.PEpochAsks Go.Proofs.YtjlcaiijapjakaaW.PrintWords Go.Proofs.YtjlcaiijapjakaaW.PrintLast Go.Proofs.YtjlcaiijapjakaaW.PrintMore

/-- Epochs are right. -/
def R (a b c : Int) : Prop := 0 ≤ b ∧ 0 ≤ c ∧ b ≤ a ∧ c ≤ a ∧ a ≤ 281474976710656
/-- A number is one of an epoch. -/
def Q (n : Int) : Prop := 0 ≤ n ∧ n ≤ 281474976710656
theorem right_pos {a b c : Int} (h : R a b c) : epoch_Epochs_Right.f a b c = some true := by
  unfold R at h; unfold epoch_Epochs_Right.f mn mx; grind
theorem right_neg {a b c : Int} (h : ¬ R a b c) : epoch_Epochs_Right.f a b c = some false := by
  unfold R at h; unfold epoch_Epochs_Right.f mn mx; grind
theorem asked_pos {a b c n : Int} (h : R a b c) (hn : Q n) : epoch_Epochs_asked.f a b c n = some 0 := by
  unfold epoch_Epochs_asked.f; rw [right_pos h]; unfold Q at hn; grind
theorem asked_neg {a b c n : Int} (h : ¬ (R a b c ∧ Q n)) : epoch_Epochs_asked.f a b c n = some 10 := by
  unfold epoch_Epochs_asked.f
  by_cases hr : R a b c
  · rw [right_pos hr]; have hn : ¬ Q n := fun x => h ⟨hr, x⟩; unfold Q at hn; grind
  · rw [right_neg hr]; grind
theorem anchor_true : grapevinelaw06_anchor.f = some true := by decide +kernel

theorem lright_pos {a b c : Int} (h : R a b c) : grapevinelaw06_right.f a b c = some true := by
  unfold R at h; unfold grapevinelaw06_right.f; grind
theorem lright_neg {a b c : Int} (h : ¬ R a b c) : grapevinelaw06_right.f a b c = some false := by
  unfold R at h; unfold grapevinelaw06_right.f; grind

theorem see_pos {a b c n : Int} (h : R a b c) (hn : Q n) : epoch_Epochs_See.f a b c n = some (mx a n, b, c, 0) := by
  unfold epoch_Epochs_See.f; rw [asked_pos h hn]; rfl
theorem see_neg {a b c n : Int} (h : ¬ (R a b c ∧ Q n)) : epoch_Epochs_See.f a b c n = some (0, 0, 0, 10) := by
  unfold epoch_Epochs_See.f; rw [asked_neg h]; rfl

theorem grant_neg {a b c n : Int} (h : ¬ (R a b c ∧ Q n)) : epoch_Epochs_Grant.f a b c n = some (0, 0, 0, 10) := by
  unfold epoch_Epochs_Grant.f; rw [asked_neg h]; rfl
theorem grant_old {a b c n : Int} (h : R a b c) (hn : Q n) (ho : n ≤ b ∨ n < a) : epoch_Epochs_Grant.f a b c n = some (0, 0, 0, 22) := by
  unfold epoch_Epochs_Grant.f; rw [asked_pos h hn]; grind
theorem grant_pos {a b c n : Int} (h : R a b c) (hn : Q n) (ho : ¬ (n ≤ b ∨ n < a)) : epoch_Epochs_Grant.f a b c n = some (n, n, c, 0) := by
  unfold epoch_Epochs_Grant.f; rw [asked_pos h hn]; grind

theorem win_neg {a b c n : Int} (h : ¬ (R a b c ∧ Q n)) : epoch_Epochs_Win.f a b c n = some (0, 0, 0, 10) := by
  unfold epoch_Epochs_Win.f; rw [asked_neg h]; rfl
theorem win_old {a b c n : Int} (h : R a b c) (hn : Q n) (ho : a < n ∨ n ≤ c) : epoch_Epochs_Win.f a b c n = some (0, 0, 0, 22) := by
  unfold epoch_Epochs_Win.f; rw [asked_pos h hn]; grind
theorem win_pos {a b c n : Int} (h : R a b c) (hn : Q n) (ho : ¬ (a < n ∨ n ≤ c)) : epoch_Epochs_Win.f a b c n = some (a, b, n, 0) := by
  unfold epoch_Epochs_Win.f; rw [asked_pos h hn]; grind

theorem stand_neg {a b c : Int} (h : ¬ R a b c) : epoch_Epochs_Stand.f a b c = some (0, 0, 0, 10) := by
  unfold epoch_Epochs_Stand.f; rw [right_neg h]; rfl
theorem stand_big {a b c : Int} (h : R a b c) (ha : a = 281474976710656) : epoch_Epochs_Stand.f a b c = some (0, 0, 0, 12) := by
  unfold epoch_Epochs_Stand.f; rw [right_pos h]; grind
theorem wrap_succ {a b c : Int} (h : R a b c) : wrap64 (a + 1) = a + 1 := by
  unfold R at h; unfold wrap64; omega
theorem stand_pos {a b c : Int} (h : R a b c) (ha : ¬ a = 281474976710656) : epoch_Epochs_Stand.f a b c = some (a + 1, b, c, 0) := by
  unfold epoch_Epochs_Stand.f; rw [right_pos h, wrap_succ h]; grind

theorem wrap_next {i n : Int} (h0 : 0 ≤ i) (h : i < n) (hn : n ≤ 40) : wrap64 (i + 1) = i + 1 := by unfold wrap64; omega
theorem one_round (l : List S23) (i a b c : Int) (hl : (l.length : Int) ≤ 40) (h0 : 0 ≤ i) (hi : i < l.length) (hR : R a b c) (hq : Q a) (hnext : Ev (fun k => grapevinelaw06_EpochAsks.l0 k l l.length (i + 1) a b c) true) :
    Ev (fun k => grapevinelaw06_EpochAsks.l0 k l l.length i a b c) true := by
  have hw := wrap_next h0 hi hl
  obtain ⟨v, hv⟩ : ∃ v, rd_T23 l i = v := ⟨_, rfl⟩
  by_cases hr : R v.f0 v.f1 v.f2
  · by_cases ho : a ≤ v.f1 ∨ a < v.f0
    · refine Ev.step (f := fun k => grapevinelaw06_EpochAsks.j1 k 22 l l.length i false a b c 0 0 0) (fun k => ?_) (Ev.step (fun k => ?_) hnext)
      · simp only [grapevinelaw06_EpochAsks.l0, hv]
        rw [if_pos hi, if_pos h0, if_pos hi, lright_pos hr, grant_old hr hq ho]
        rcases ho with ho | ho
        · have h1 : ¬ v.f1 < a := by omega
          simp [h1]
        · have h1 : ¬ v.f0 ≤ a := by omega
          simp [h1]
      · simp [grapevinelaw06_EpochAsks.j1, hw]
    · have hr2 : R a a v.f2 := by unfold R Q at *; omega
      refine Ev.step (f := fun k => grapevinelaw06_EpochAsks.j1 k 0 l l.length i false a b c a a v.f2) (fun k => ?_) (Ev.step (f := fun k => grapevinelaw06_EpochAsks.j2 k l l.length i false a b c a a v.f2) (fun k => ?_) (Ev.step (fun k => ?_) hnext))
      · simp only [grapevinelaw06_EpochAsks.l0, hv]
        rw [if_pos hi, if_pos h0, if_pos hi, lright_pos hr, grant_pos hr hq ho]
        have h1 : v.f1 < a := by omega
        have h2 : v.f0 ≤ a := by omega
        simp [h1, h2]
      · simp only [grapevinelaw06_EpochAsks.j1]
        rw [grant_old hr2 hq (.inl (Int.le_refl a))]
        simp
      · simp only [grapevinelaw06_EpochAsks.j2]
        rw [see_pos hr2 hq]
        simp [mx, hw]
  · refine Ev.step (fun k => ?_) hnext
    simp only [grapevinelaw06_EpochAsks.l0, hv]
    rw [if_pos hi, if_pos h0, if_pos hi, lright_neg hr]
    simp [hw]
theorem all_rounds (l : List S23) (a b c : Int) (hl : (l.length : Int) ≤ 40) (hR : R a b c) (hc : c < a) (d : Nat) : ∀ i : Int, 0 ≤ i → (l.length : Int) - i = d → Ev (fun k => grapevinelaw06_EpochAsks.l0 k l l.length i a b c) true := by
  have hq : Q a := by unfold R Q at *; omega
  induction d with
  | zero =>
    intro i h0 hd
    refine Ev.step (f := fun _ => some true) (fun k => ?_) (Ev.now true)
    simp only [grapevinelaw06_EpochAsks.l0]
    rw [if_neg (by omega), win_pos hR hq (by omega)]
    simp
  | succ d ih => exact fun i h0 hd => one_round l i a b c hl h0 (by omega) hR hq (ih (i + 1) (by omega) (by omega))
theorem law (a b c : Int) (l : List S23) : ∃ k, grapevinelaw06_EpochAsks.f k a b c l = some true := by
  apply Ev.rounds
  by_cases hl : (l.length : Int) > 40
  · refine Ev.congr (fun k => ?_) (Ev.now true)
    unfold grapevinelaw06_EpochAsks.f; rw [anchor_true]; simp [hl]
  by_cases h : R a b c
  · by_cases ha : a = 281474976710656
    · refine Ev.congr (fun k => ?_) (Ev.now true)
      unfold grapevinelaw06_EpochAsks.f; rw [anchor_true, stand_big h ha]; simp
    · have h2 : R (a + 1) b c := by unfold R at *; omega
      have h3 : c < a + 1 := by unfold R at h; omega
      refine Ev.congr (fun k => ?_) (all_rounds l (a + 1) b c (by omega) h2 h3 l.length 0 (by omega) (by omega))
      unfold grapevinelaw06_EpochAsks.f; rw [anchor_true, stand_pos h ha]
      simp only [Option.bind_some, if_true]
      rw [if_neg hl]
  · refine Ev.congr (fun k => ?_) (Ev.now true)
    unfold grapevinelaw06_EpochAsks.f; rw [anchor_true, stand_neg h]; simp

end Go.Proofs.Ytjlcaiijapjakaa.EpochAsksPure
