/- The plain law of EpochGrows: through any acts no epoch goes down, all stays right, and no epoch is voted in twice; for every three numbers of epochs and every list of acts. -/
import Derived.Test.YtjlcaiijapjakaaQEpochGrowsc
namespace Go.Proofs.Ytjlcaiijapjakaa.EpochGrowsPure
open Go.RowKit Go.Proofs.Ytjlcaiijapjakaa.QEpochGrows Go.Proofs.YtjlcaiijapjakaaW.PrintWords Go.Proofs.YtjlcaiijapjakaaW.PrintLast Go.Proofs.YtjlcaiijapjakaaW.PrintMore

/-- Epochs are right. -/
def R (a b c : Int) : Prop := 0 ≤ b ∧ 0 ≤ c ∧ b ≤ a ∧ c ≤ a ∧ a ≤ 281474976710656
/-- A number is one of an epoch. -/
def Q (n : Int) : Prop := 0 ≤ n ∧ n ≤ 281474976710656
theorem right_pos {a b c : Int} (h : R a b c) : epoch_Epochs_Right.f a b c = some true := by
  unfold R at h; unfold epoch_Epochs_Right.f mn mx; grind
theorem right_neg {a b c : Int} (h : ¬ R a b c) : epoch_Epochs_Right.f a b c = some false := by
  unfold R at h; unfold epoch_Epochs_Right.f mn mx; grind
theorem asked_pos {a b c n : Int} (h : R a b c) (hn : Q n) : epoch_Epochs_asked.f a b c n = some 0 := by
  unfold epoch_Epochs_asked.f; rw [right_pos h]; unfold Q at hn; grind
theorem asked_neg {a b c n : Int} (h : ¬ (R a b c ∧ Q n)) : epoch_Epochs_asked.f a b c n = some 10 := by
  unfold epoch_Epochs_asked.f
  by_cases hr : R a b c
  · rw [right_pos hr]; have hn : ¬ Q n := fun x => h ⟨hr, x⟩; unfold Q at hn; grind
  · rw [right_neg hr]; grind
theorem anchor_true : grapevinelaw06_anchor.f = some true := by decide +kernel

theorem lright_pos {a b c : Int} (h : R a b c) : grapevinelaw06_right.f a b c = some true := by
  unfold R at h; unfold grapevinelaw06_right.f; grind
theorem lright_neg {a b c : Int} (h : ¬ R a b c) : grapevinelaw06_right.f a b c = some false := by
  unfold R at h; unfold grapevinelaw06_right.f; grind

theorem see_pos {a b c n : Int} (h : R a b c) (hn : Q n) : epoch_Epochs_See.f a b c n = some (mx a n, b, c, 0) := by
  unfold epoch_Epochs_See.f; rw [asked_pos h hn]; rfl
theorem see_neg {a b c n : Int} (h : ¬ (R a b c ∧ Q n)) : epoch_Epochs_See.f a b c n = some (0, 0, 0, 10) := by
  unfold epoch_Epochs_See.f; rw [asked_neg h]; rfl

theorem grant_neg {a b c n : Int} (h : ¬ (R a b c ∧ Q n)) : epoch_Epochs_Grant.f a b c n = some (0, 0, 0, 10) := by
  unfold epoch_Epochs_Grant.f; rw [asked_neg h]; rfl
theorem grant_old {a b c n : Int} (h : R a b c) (hn : Q n) (ho : n ≤ b ∨ n < a) : epoch_Epochs_Grant.f a b c n = some (0, 0, 0, 22) := by
  unfold epoch_Epochs_Grant.f; rw [asked_pos h hn]; grind
theorem grant_pos {a b c n : Int} (h : R a b c) (hn : Q n) (ho : ¬ (n ≤ b ∨ n < a)) : epoch_Epochs_Grant.f a b c n = some (n, n, c, 0) := by
  unfold epoch_Epochs_Grant.f; rw [asked_pos h hn]; grind

theorem win_neg {a b c n : Int} (h : ¬ (R a b c ∧ Q n)) : epoch_Epochs_Win.f a b c n = some (0, 0, 0, 10) := by
  unfold epoch_Epochs_Win.f; rw [asked_neg h]; rfl
theorem win_old {a b c n : Int} (h : R a b c) (hn : Q n) (ho : a < n ∨ n ≤ c) : epoch_Epochs_Win.f a b c n = some (0, 0, 0, 22) := by
  unfold epoch_Epochs_Win.f; rw [asked_pos h hn]; grind
theorem win_pos {a b c n : Int} (h : R a b c) (hn : Q n) (ho : ¬ (a < n ∨ n ≤ c)) : epoch_Epochs_Win.f a b c n = some (a, b, n, 0) := by
  unfold epoch_Epochs_Win.f; rw [asked_pos h hn]; grind

theorem stand_neg {a b c : Int} (h : ¬ R a b c) : epoch_Epochs_Stand.f a b c = some (0, 0, 0, 10) := by
  unfold epoch_Epochs_Stand.f; rw [right_neg h]; rfl
theorem stand_big {a b c : Int} (h : R a b c) (ha : a = 281474976710656) : epoch_Epochs_Stand.f a b c = some (0, 0, 0, 12) := by
  unfold epoch_Epochs_Stand.f; rw [right_pos h]; grind
theorem wrap_succ {a b c : Int} (h : R a b c) : wrap64 (a + 1) = a + 1 := by
  unfold R at h; unfold wrap64; omega
theorem stand_pos {a b c : Int} (h : R a b c) (ha : ¬ a = 281474976710656) : epoch_Epochs_Stand.f a b c = some (a + 1, b, c, 0) := by
  unfold epoch_Epochs_Stand.f; rw [right_pos h, wrap_succ h]; grind

theorem bump_neg {a b c : Int} (h : ¬ R a b c) : epoch_Epochs_Bump.f a b c = some (0, 0, 0, 10) := by
  unfold epoch_Epochs_Bump.f; rw [stand_neg h]; rfl
theorem bump_big {a b c : Int} (h : R a b c) (ha : a = 281474976710656) : epoch_Epochs_Bump.f a b c = some (0, 0, 0, 12) := by
  unfold epoch_Epochs_Bump.f; rw [stand_big h ha]; rfl
theorem bump_pos {a b c : Int} (h : R a b c) (ha : ¬ a = 281474976710656) : epoch_Epochs_Bump.f a b c = some (a + 1, b, a + 1, 0) := by
  unfold epoch_Epochs_Bump.f; rw [stand_pos h ha]; rfl

theorem wrap_next {i n : Int} (h0 : 0 ≤ i) (h : i < n) (hn : n ≤ 9223372036854775807) : wrap64 (i + 1) = i + 1 := by unfold wrap64; omega
theorem rd_in (xs : List Int) (i : Int) (h0 : 0 ≤ i) (h : i < xs.length) : rd xs i ∈ xs := by
  unfold rd
  have hl : i.toNat < xs.length := by omega
  rw [List.getD_eq_getElem?_getD, List.getElem?_eq_getElem hl]
  exact List.getElem_mem hl
/-- The votes are gone through; none is the new one; it is put behind them. -/
theorem scan (vs : List Int) (l : List S39) (j : Int) (n a b c : Int) (hvl : vs.length ≤ 100) (hne : ∀ x ∈ vs, x ≠ n)
    (hnext : Ev (fun k => grapevinelaw06_EpochGrows.l0 k (vs ++ [n]) l l.length (wrap64 (j + 1)) a b c) true) (d : Nat) :
    ∀ i : Int, 0 ≤ i → (vs.length : Int) - i = d → Ev (fun k => grapevinelaw06_EpochGrows.l1 k vs l l.length j vs vs.length i 3 n a b c) true := by
  induction d with
  | zero =>
    intro i h0 hd
    refine Ev.step (fun k => ?_) hnext
    simp only [grapevinelaw06_EpochGrows.l1]
    rw [if_neg (by omega), if_pos (by omega)]
  | succ d ih =>
    intro i h0 hd
    have hi : i < vs.length := by omega
    refine Ev.step (fun k => ?_) (ih (i + 1) (by omega) (by omega))
    simp only [grapevinelaw06_EpochGrows.l1]
    rw [if_pos hi, if_pos h0, if_pos hi, if_neg (hne _ (rd_in vs i h0 hi)), wrap_next h0 hi (by omega)]
/-- What an act came to: right epochs that are not below the ones ahead of it. -/
theorem went (vs : List Int) (l : List S39) (j : Int) (how n a b c a' b' c' : Int) (hvl : vs.length ≤ 100) (hR' : R a' b' c') (ha : a ≤ a') (hb : b ≤ b') (hc : c ≤ c') (hne : how = 3 → ∀ x ∈ vs, x ≠ n)
    (h3 : how = 3 → Ev (fun k => grapevinelaw06_EpochGrows.l0 k (vs ++ [n]) l l.length (wrap64 (j + 1)) a' b' c') true)
    (h1 : how ≠ 3 → Ev (fun k => grapevinelaw06_EpochGrows.l0 k vs l l.length (wrap64 (j + 1)) a' b' c') true) :
    Ev (fun k => grapevinelaw06_EpochGrows.j2 k vs 0 l l.length j a b c how n a' b' c') true := by
  refine Ev.step (f := fun k => grapevinelaw06_EpochGrows.j3 k vs l l.length j false how n a' b' c') (fun k => ?_) ?_
  · simp only [grapevinelaw06_EpochGrows.j2]
    rw [right_pos hR']
    have e1 : ¬ a' < a := by omega
    have e2 : ¬ b' < b := by omega
    have e3 : ¬ c' < c := by omega
    simp [e1, e2, e3]
  · by_cases h : how = 3
    · subst h
      refine Ev.step (fun k => ?_) (scan vs l j n a' b' c' hvl (hne rfl) (h3 rfl) vs.length 0 (by omega) (by omega))
      simp [grapevinelaw06_EpochGrows.j3]
    · refine Ev.step (fun k => ?_) (h1 h)
      simp [grapevinelaw06_EpochGrows.j3, h]
/-- An act that was refused. -/
theorem stayed (vs : List Int) (l : List S39) (j : Int) (e how n a b c a' b' c' : Int) (he : e ≠ 0) (h : Ev (fun k => grapevinelaw06_EpochGrows.l0 k vs l l.length (wrap64 (j + 1)) a b c) true) :
    Ev (fun k => grapevinelaw06_EpochGrows.j2 k vs e l l.length j a b c how n a' b' c') true := by
  refine Ev.step (fun k => ?_) h
  simp [grapevinelaw06_EpochGrows.j2, he]
theorem one_round (l : List S39) (vs : List Int) (i a b c : Int) (hl : (l.length : Int) ≤ 100) (h0 : 0 ≤ i) (hi : i < l.length) (hR : R a b c) (hv : ∀ x ∈ vs, x ≤ b) (hvl : (vs.length : Int) ≤ i)
    (hnext : ∀ (vs' : List Int) (a' b' c' : Int), R a' b' c' → (∀ x ∈ vs', x ≤ b') → (vs'.length : Int) ≤ i + 1 → Ev (fun k => grapevinelaw06_EpochGrows.l0 k vs' l l.length (i + 1) a' b' c') true) :
    Ev (fun k => grapevinelaw06_EpochGrows.l0 k vs l l.length i a b c) true := by
  have hw : wrap64 (i + 1) = i + 1 := wrap_next h0 hi (by omega)
  have same : Ev (fun k => grapevinelaw06_EpochGrows.l0 k vs l l.length (wrap64 (i + 1)) a b c) true := by
    rw [hw]; exact hnext vs a b c hR hv (by omega)
  have go : ∀ (a' b' c' : Int), R a' b' c' → b ≤ b' → Ev (fun k => grapevinelaw06_EpochGrows.l0 k vs l l.length (wrap64 (i + 1)) a' b' c') true := fun a' b' c' hr hbb => by
    rw [hw]; exact hnext vs a' b' c' hr (fun x hx => Int.le_trans (hv x hx) hbb) (by omega)
  have hlen : vs.length ≤ 100 := by omega
  obtain ⟨v, hvv⟩ : ∃ v, rd_T39 l i = v := ⟨_, rfl⟩
  have key : ∀ (g : Nat → Option Bool), (∀ k, grapevinelaw06_EpochGrows.l0 (k + 1) vs l l.length i a b c = g k) → Ev g true → Ev (fun k => grapevinelaw06_EpochGrows.l0 k vs l l.length i a b c) true := fun g hg h => Ev.step hg h
  by_cases c1 : v.f0 = 1
  · by_cases hq : Q v.f1
    · have hR2 : R (mx a v.f1) b c := by unfold R Q mx at *; grind
      refine key (fun k => grapevinelaw06_EpochGrows.j2 k vs 0 l l.length i a b c v.f0 v.f1 (mx a v.f1) b c) (fun k => ?_) (went vs l i v.f0 v.f1 a b c _ _ _ hlen hR2 (by unfold mx; grind) (Int.le_refl _) (Int.le_refl _) (fun h => by omega) (fun h => by omega) (fun _ => go _ _ _ hR2 (Int.le_refl _)))
      simp only [grapevinelaw06_EpochGrows.l0, hvv]
      rw [if_pos hi, if_pos h0, if_pos hi, if_pos c1, see_pos hR hq]; rfl
    · refine key (fun k => grapevinelaw06_EpochGrows.j2 k vs 10 l l.length i a b c v.f0 v.f1 0 0 0) (fun k => ?_) (stayed vs l i 10 v.f0 v.f1 a b c _ _ _ (by decide) same)
      simp only [grapevinelaw06_EpochGrows.l0, hvv]
      rw [if_pos hi, if_pos h0, if_pos hi, if_pos c1, see_neg (fun x => hq x.2)]; rfl
  by_cases c2 : v.f0 = 2
  · by_cases ha : a = 281474976710656
    · refine key (fun k => grapevinelaw06_EpochGrows.j2 k vs 12 l l.length i a b c v.f0 v.f1 0 0 0) (fun k => ?_) (stayed vs l i 12 v.f0 v.f1 a b c _ _ _ (by decide) same)
      simp only [grapevinelaw06_EpochGrows.l0, hvv]
      rw [if_pos hi, if_pos h0, if_pos hi, if_neg c1, if_pos c2, stand_big hR ha]; rfl
    · have hR2 : R (a + 1) b c := by unfold R at *; omega
      refine key (fun k => grapevinelaw06_EpochGrows.j2 k vs 0 l l.length i a b c v.f0 v.f1 (a + 1) b c) (fun k => ?_) (went vs l i v.f0 v.f1 a b c _ _ _ hlen hR2 (by omega) (Int.le_refl _) (Int.le_refl _) (fun h => by omega) (fun h => by omega) (fun _ => go _ _ _ hR2 (Int.le_refl _)))
      simp only [grapevinelaw06_EpochGrows.l0, hvv]
      rw [if_pos hi, if_pos h0, if_pos hi, if_neg c1, if_pos c2, stand_pos hR ha]; rfl
  by_cases c3 : v.f0 = 3
  · by_cases hq : Q v.f1
    · by_cases ho : v.f1 ≤ b ∨ v.f1 < a
      · refine key (fun k => grapevinelaw06_EpochGrows.j2 k vs 22 l l.length i a b c v.f0 v.f1 0 0 0) (fun k => ?_) (stayed vs l i 22 v.f0 v.f1 a b c _ _ _ (by decide) same)
        simp only [grapevinelaw06_EpochGrows.l0, hvv]
        rw [if_pos hi, if_pos h0, if_pos hi, if_neg c1, if_neg c2, if_pos c3, grant_old hR hq ho]; rfl
      · have hR2 : R v.f1 v.f1 c := by unfold R Q at *; omega
        refine key (fun k => grapevinelaw06_EpochGrows.j2 k vs 0 l l.length i a b c v.f0 v.f1 v.f1 v.f1 c) (fun k => ?_) (went vs l i v.f0 v.f1 a b c _ _ _ hlen hR2 (by omega) (by omega) (Int.le_refl _) (fun _ x hx => by have := hv x hx; omega) (fun _ => ?_) (fun h => absurd c3 h))
        · simp only [grapevinelaw06_EpochGrows.l0, hvv]
          rw [if_pos hi, if_pos h0, if_pos hi, if_neg c1, if_neg c2, if_pos c3, grant_pos hR hq ho]; rfl
        · rw [hw]
          refine hnext (vs ++ [v.f1]) _ _ _ hR2 (fun x hx => ?_) (by simp; omega)
          rcases List.mem_append.mp hx with hx | hx
          · have := hv x hx; omega
          · rw [List.mem_singleton.mp hx]; exact Int.le_refl _
    · refine key (fun k => grapevinelaw06_EpochGrows.j2 k vs 10 l l.length i a b c v.f0 v.f1 0 0 0) (fun k => ?_) (stayed vs l i 10 v.f0 v.f1 a b c _ _ _ (by decide) same)
      simp only [grapevinelaw06_EpochGrows.l0, hvv]
      rw [if_pos hi, if_pos h0, if_pos hi, if_neg c1, if_neg c2, if_pos c3, grant_neg (fun x => hq x.2)]; rfl
  by_cases c4 : v.f0 = 4
  · by_cases hq : Q v.f1
    · by_cases ho : a < v.f1 ∨ v.f1 ≤ c
      · refine key (fun k => grapevinelaw06_EpochGrows.j2 k vs 22 l l.length i a b c v.f0 v.f1 0 0 0) (fun k => ?_) (stayed vs l i 22 v.f0 v.f1 a b c _ _ _ (by decide) same)
        simp only [grapevinelaw06_EpochGrows.l0, hvv]
        rw [if_pos hi, if_pos h0, if_pos hi, if_neg c1, if_neg c2, if_neg c3, if_pos c4, win_old hR hq ho]; rfl
      · have hR2 : R a b v.f1 := by unfold R Q at *; omega
        refine key (fun k => grapevinelaw06_EpochGrows.j2 k vs 0 l l.length i a b c v.f0 v.f1 a b v.f1) (fun k => ?_) (went vs l i v.f0 v.f1 a b c _ _ _ hlen hR2 (Int.le_refl _) (Int.le_refl _) (by omega) (fun h => by omega) (fun h => by omega) (fun _ => go _ _ _ hR2 (Int.le_refl _)))
        simp only [grapevinelaw06_EpochGrows.l0, hvv]
        rw [if_pos hi, if_pos h0, if_pos hi, if_neg c1, if_neg c2, if_neg c3, if_pos c4, win_pos hR hq ho]; rfl
    · refine key (fun k => grapevinelaw06_EpochGrows.j2 k vs 10 l l.length i a b c v.f0 v.f1 0 0 0) (fun k => ?_) (stayed vs l i 10 v.f0 v.f1 a b c _ _ _ (by decide) same)
      simp only [grapevinelaw06_EpochGrows.l0, hvv]
      rw [if_pos hi, if_pos h0, if_pos hi, if_neg c1, if_neg c2, if_neg c3, if_pos c4, win_neg (fun x => hq x.2)]; rfl
  by_cases c5 : v.f0 = 5
  · by_cases ha : a = 281474976710656
    · refine key (fun k => grapevinelaw06_EpochGrows.j2 k vs 12 l l.length i a b c v.f0 v.f1 0 0 0) (fun k => ?_) (stayed vs l i 12 v.f0 v.f1 a b c _ _ _ (by decide) same)
      simp only [grapevinelaw06_EpochGrows.l0, hvv]
      rw [if_pos hi, if_pos h0, if_pos hi, if_neg c1, if_neg c2, if_neg c3, if_neg c4, if_pos c5, bump_big hR ha]; rfl
    · have hR2 : R (a + 1) b (a + 1) := by unfold R at *; omega
      refine key (fun k => grapevinelaw06_EpochGrows.j2 k vs 0 l l.length i a b c v.f0 v.f1 (a + 1) b (a + 1)) (fun k => ?_) (went vs l i v.f0 v.f1 a b c _ _ _ hlen hR2 (by omega) (Int.le_refl _) (by unfold R at hR; omega) (fun h => by omega) (fun h => by omega) (fun _ => go _ _ _ hR2 (Int.le_refl _)))
      simp only [grapevinelaw06_EpochGrows.l0, hvv]
      rw [if_pos hi, if_pos h0, if_pos hi, if_neg c1, if_neg c2, if_neg c3, if_neg c4, if_pos c5, bump_pos hR ha]; rfl
  refine key (fun k => grapevinelaw06_EpochGrows.j2 k vs 10 l l.length i a b c v.f0 v.f1 a b c) (fun k => ?_) (stayed vs l i 10 v.f0 v.f1 a b c _ _ _ (by decide) same)
  simp only [grapevinelaw06_EpochGrows.l0, hvv]
  rw [if_pos hi, if_pos h0, if_pos hi, if_neg c1, if_neg c2, if_neg c3, if_neg c4, if_neg c5]
theorem all_rounds (l : List S39) (hl : (l.length : Int) ≤ 100) (d : Nat) : ∀ (i : Int) (vs : List Int) (a b c : Int), 0 ≤ i → (l.length : Int) - i = d → R a b c → (∀ x ∈ vs, x ≤ b) → (vs.length : Int) ≤ i →
    Ev (fun k => grapevinelaw06_EpochGrows.l0 k vs l l.length i a b c) true := by
  induction d with
  | zero =>
    intro i vs a b c h0 hd hR hv hvl
    refine Ev.step (f := fun _ => some true) (fun k => ?_) (Ev.now true)
    simp only [grapevinelaw06_EpochGrows.l0]
    rw [if_neg (by omega)]
  | succ d ih =>
    exact fun i vs a b c h0 hd hR hv hvl => one_round l vs i a b c hl h0 (by omega) hR hv hvl (fun vs' a' b' c' hR' hv' hvl' => ih (i + 1) vs' a' b' c' (by omega) (by omega) hR' hv' hvl')
theorem law (a b c : Int) (l : List S39) : ∃ k, grapevinelaw06_EpochGrows.f k a b c l = some true := by
  apply Ev.rounds
  by_cases h : R a b c
  · by_cases hl : (l.length : Int) > 100
    · refine Ev.congr (f := fun k => grapevinelaw06_EpochGrows.j0 k l true a b c) (fun k => ?_) (Ev.step (f := fun _ => some true) (fun k => ?_) (Ev.now true))
      · unfold grapevinelaw06_EpochGrows.f; rw [anchor_true, lright_pos h]; simp [hl]
      · simp [grapevinelaw06_EpochGrows.j0]
    · refine Ev.congr (f := fun k => grapevinelaw06_EpochGrows.j0 k l false a b c) (fun k => ?_) (Ev.step (fun k => ?_) (all_rounds l (by omega) l.length 0 [] a b c (by omega) (by omega) h (fun x hx => by cases hx) (by simp)))
      · unfold grapevinelaw06_EpochGrows.f; rw [anchor_true, lright_pos h]; simp [hl]
      · simp [grapevinelaw06_EpochGrows.j0]
  · refine Ev.congr (f := fun k => grapevinelaw06_EpochGrows.j0 k l true a b c) (fun k => ?_) (Ev.step (f := fun _ => some true) (fun k => ?_) (Ev.now true))
    · unfold grapevinelaw06_EpochGrows.f; rw [anchor_true, lright_neg h]; simp
    · simp [grapevinelaw06_EpochGrows.j0]

end Go.Proofs.Ytjlcaiijapjakaa.EpochGrowsPure
