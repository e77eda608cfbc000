/- The plain law of EpochOrder: epochs that are seen in any order come to the same; for every three numbers of epochs and every list of numbers. -/
import Derived.Test.YtjlcaiijapjakaaQEpochOrderc
namespace Go.Proofs.Ytjlcaiijapjakaa.EpochOrderPure
open Go.RowKit Go.Proofs.Ytjlcaiijapjakaa.QEpochOrder Go.Proofs.YtjlcaiijapjakaaW.PrintWords Go.Proofs.YtjlcaiijapjakaaW.PrintLast Go.Proofs.YtjlcaiijapjakaaW.PrintMore
set_option linter.unusedVariables false
set_option linter.unusedSimpArgs false

/-- Epochs are right. -/
def R (a b c : Int) : Prop := 0 ≤ b ∧ 0 ≤ c ∧ b ≤ a ∧ c ≤ a ∧ a ≤ 281474976710656
/-- A number is one of an epoch. -/
def Q (n : Int) : Prop := 0 ≤ n ∧ n ≤ 281474976710656
theorem right_pos {a b c : Int} (h : R a b c) : epoch_Epochs_Right.f a b c = some true := by
  unfold R at h; unfold epoch_Epochs_Right.f mn mx; grind
theorem right_neg {a b c : Int} (h : ¬ R a b c) : epoch_Epochs_Right.f a b c = some false := by
  unfold R at h; unfold epoch_Epochs_Right.f mn mx; grind
theorem asked_pos {a b c n : Int} (h : R a b c) (hn : Q n) : epoch_Epochs_asked.f a b c n = some 0 := by
  unfold epoch_Epochs_asked.f; rw [right_pos h]; unfold Q at hn; grind
theorem asked_neg {a b c n : Int} (h : ¬ (R a b c ∧ Q n)) : epoch_Epochs_asked.f a b c n = some 10 := by
  unfold epoch_Epochs_asked.f
  by_cases hr : R a b c
  · rw [right_pos hr]; have hn : ¬ Q n := fun x => h ⟨hr, x⟩; unfold Q at hn; grind
  · rw [right_neg hr]; grind
theorem anchor_true : grapevinelaw06_anchor.f = some true := by decide +kernel

theorem lright_pos {a b c : Int} (h : R a b c) : grapevinelaw06_right.f a b c = some true := by
  unfold R at h; unfold grapevinelaw06_right.f; grind
theorem lright_neg {a b c : Int} (h : ¬ R a b c) : grapevinelaw06_right.f a b c = some false := by
  unfold R at h; unfold grapevinelaw06_right.f; grind

theorem see_pos {a b c n : Int} (h : R a b c) (hn : Q n) : epoch_Epochs_See.f a b c n = some (mx a n, b, c, 0) := by
  unfold epoch_Epochs_See.f; rw [asked_pos h hn]; rfl
theorem see_neg {a b c n : Int} (h : ¬ (R a b c ∧ Q n)) : epoch_Epochs_See.f a b c n = some (0, 0, 0, 10) := by
  unfold epoch_Epochs_See.f; rw [asked_neg h]; rfl

theorem wrap_next {i n : Int} (h0 : 0 ≤ i) (h : i < n) (hn : n ≤ 9223372036854775807) : wrap64 (i + 1) = i + 1 := by unfold wrap64; omega
instance (n : Int) : Decidable (Q n) := by unfold Q; infer_instance
/-- What is seen. -/
def sees (a x : Int) : Int := if Q x then mx a x else a
theorem sees_comm (a x y : Int) : sees (sees a x) y = sees (sees a y) x := by unfold sees mx; grind
theorem fold_out (l : List Int) : ∀ a x, l.foldl sees (sees a x) = sees (l.foldl sees a) x := by
  induction l with
  | nil => exact fun _ _ => rfl
  | cons y l ih => intro a x; simp only [List.foldl_cons]; rw [sees_comm, ih]
theorem fold_reverse (l : List Int) : ∀ a, l.reverse.foldl sees a = l.foldl sees a := by
  induction l with
  | nil => exact fun _ => rfl
  | cons y l ih => intro a; simp only [List.reverse_cons, List.foldl_append, List.foldl_cons, List.foldl_nil]; rw [ih, ← fold_out]
theorem rd_at (l : List Int) (j : Nat) (h : j < l.length) (i : Int) (hi : i = j) : rd l i = l[j] := by
  subst hi
  unfold rd
  rw [List.getD_eq_getElem?_getD, Int.toNat_natCast, List.getElem?_eq_getElem h]
  rfl
theorem fold_take (l : List Int) (a : Int) (j : Nat) (h : j < l.length) : (l.take (j + 1)).foldl sees a = sees ((l.take j).foldl sees a) l[j] := by
  rw [List.take_succ_eq_append_getElem h, List.foldl_append]
  rfl
theorem fold_take_rev (l : List Int) (a : Int) (j : Nat) (h : j < l.length) : (l.reverse.take (j + 1)).foldl sees a = sees ((l.reverse.take j).foldl sees a) l[l.length - 1 - j] := by
  rw [fold_take l.reverse a j (by simpa using h), List.getElem_reverse]
theorem sees_right {a b c : Int} (x : Int) (h : R a b c) : R (sees a x) b c := by unfold R sees Q mx at *; grind
/-- The second one sees, and the round ends. -/
theorem second (l : List Int) (j : Nat) (hl : l.length ≤ 60) (hj : j < l.length) (a b c a' b' c' : Int) (hR : R a' b' c')
    (hnext : Ev (fun k => grapevinelaw06_EpochOrder.l0 k l l.length ((j : Int) + 1) a b c (sees a' l[l.length - 1 - j]) b' c') true) :
    Ev (fun k => grapevinelaw06_EpochOrder.j2 k l j l.length j a b c a' b' c') true := by
  have e1 : wrap64 ((wrap64 ((l.length : Int) - 1)) - j) = ((l.length - 1 - j : Nat) : Int) := by unfold wrap64; omega
  have e2 : wrap64 ((j : Int) + 1) = (j : Int) + 1 := by unfold wrap64; omega
  have e3 : rd l ((l.length - 1 - j : Nat) : Int) = l[l.length - 1 - j] := rd_at l _ (by omega) _ rfl
  refine Ev.step (fun k => ?_) hnext
  simp only [grapevinelaw06_EpochOrder.j2]
  rw [e1, if_pos (by omega), if_pos (by omega), e3, e2]
  by_cases hq : Q l[l.length - 1 - j]
  · rw [see_pos hR hq]
    simp [sees, hq]
  · rw [see_neg (fun x => hq x.2)]
    simp [sees, hq]
theorem one_round (l : List Int) (j : Nat) (hl : l.length ≤ 60) (hj : j < l.length) (a b c a' b' c' : Int) (hR : R a b c) (hR' : R a' b' c')
    (hnext : Ev (fun k => grapevinelaw06_EpochOrder.l0 k l l.length ((j : Int) + 1) (sees a l[j]) b c (sees a' l[l.length - 1 - j]) b' c') true) :
    Ev (fun k => grapevinelaw06_EpochOrder.l0 k l l.length j a b c a' b' c') true := by
  have e3 : rd l (j : Int) = l[j] := rd_at l _ hj _ rfl
  refine Ev.step (fun k => ?_) (second l j hl hj (sees a l[j]) b c a' b' c' hR' hnext)
  simp only [grapevinelaw06_EpochOrder.l0]
  rw [if_pos (by omega), if_pos (by omega), if_pos (by omega), e3]
  by_cases hq : Q l[j]
  · rw [see_pos hR hq]
    simp [sees, hq]
  · rw [see_neg (fun x => hq x.2)]
    simp [sees, hq]
theorem all_rounds (l : List Int) (hl : l.length ≤ 60) (a b c : Int) (hR : R a b c) (d : Nat) : ∀ j : Nat, l.length - j = d → j ≤ l.length → R ((l.take j).foldl sees a) b c → R ((l.reverse.take j).foldl sees a) b c →
    Ev (fun k => grapevinelaw06_EpochOrder.l0 k l l.length j ((l.take j).foldl sees a) b c ((l.reverse.take j).foldl sees a) b c) true := by
  induction d with
  | zero =>
    intro j hd hj h1 h2
    obtain rfl : j = l.length := by omega
    refine Ev.step (f := fun _ => some true) (fun k => ?_) (Ev.now true)
    simp only [grapevinelaw06_EpochOrder.l0]
    rw [if_neg (by omega), List.take_length, List.take_of_length_le (by simp), fold_reverse]
    simp
  | succ d ih =>
    intro j hd hj h1 h2
    have hlt : j < l.length := by omega
    refine one_round l j hl hlt _ b c _ b c h1 h2 ?_
    have n1 := fold_take l a j hlt
    have n2 := fold_take_rev l a j hlt
    have := ih (j + 1) (by omega) (by omega) (by rw [n1]; exact sees_right _ h1) (by rw [n2]; exact sees_right _ h2)
    rw [n1, n2] at this
    exact this
theorem law (a b c : Int) (l : List Int) : ∃ k, grapevinelaw06_EpochOrder.f k a b c l = some true := by
  apply Ev.rounds
  by_cases h : R a b c
  · by_cases hl : (l.length : Int) > 60
    · refine Ev.congr (f := fun k => grapevinelaw06_EpochOrder.j0 k l true a b c) (fun k => ?_) (Ev.step (f := fun _ => some true) (fun k => ?_) (Ev.now true))
      · unfold grapevinelaw06_EpochOrder.f; rw [anchor_true, lright_pos h]; simp [hl]
      · simp [grapevinelaw06_EpochOrder.j0]
    · refine Ev.congr (f := fun k => grapevinelaw06_EpochOrder.j0 k l false a b c) (fun k => ?_) (Ev.step (fun k => ?_) (all_rounds l (by omega) a b c h l.length 0 (by omega) (by omega) (by simpa using h) (by simpa using h)))
      · unfold grapevinelaw06_EpochOrder.f; rw [anchor_true, lright_pos h]; simp [hl]
      · simp [grapevinelaw06_EpochOrder.j0]
  · refine Ev.congr (f := fun k => grapevinelaw06_EpochOrder.j0 k l true a b c) (fun k => ?_) (Ev.step (f := fun _ => some true) (fun k => ?_) (Ev.now true))
    · unfold grapevinelaw06_EpochOrder.f; rw [anchor_true, lright_neg h]; simp
    · simp [grapevinelaw06_EpochOrder.j0]

end Go.Proofs.Ytjlcaiijapjakaa.EpochOrderPure
