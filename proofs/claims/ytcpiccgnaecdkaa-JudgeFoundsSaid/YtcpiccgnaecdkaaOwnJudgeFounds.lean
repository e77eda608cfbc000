/- The plain law of JudgeFounds: a win is unfounded just if no more than half of its voters gave their votes ahead of it. For every list of events. -/
import Derived.Test.YtcpiccgnaecdkaaQJudgeFoundsa
namespace Go.Proofs.Ytcpiccgnaecdkaa.JudgeFoundsPure
open Go.RowKit Go.Proofs.Ytcpiccgnaecdkaa.QJudgeFounds Go.Proofs.YtcpiccgnaecdkaaW.PrintWords Go.Proofs.YtcpiccgnaecdkaaW.PrintLast Go.Proofs.YtcpiccgnaecdkaaW.PrintMore
set_option linter.unusedVariables false
set_option linter.unusedSimpArgs false

theorem at_take (l : List S27) (i j : Nat) (h : j < i) : rd_T27 (l.take i) (j : Int) = rd_T27 l (j : Int) := by
  unfold rd_T27
  rw [List.getD_eq_getElem?_getD, List.getD_eq_getElem?_getD, Int.toNat_natCast, List.getElem?_take, if_pos h]
theorem small_ends (l : List S27) (hl : l.length ≤ 9223372036854775807) : ∃ b, Ev (fun k => grapevinelaw21_small.f k l) b ∧ (b = true → l.length ≤ 60 ∧ ∀ e ∈ l, e.f4.length ≤ 30) := by
  have go : ∀ (d i : Nat), i + d = l.length → (∀ j, j < i → (rd_T27 l (j : Int)).f4.length ≤ 30) → ∃ b, Ev (fun k => grapevinelaw21_small.l0 k l l l.length i) b ∧ (b = true → l.length ≤ 60 ∧ ∀ j, j < l.length → (rd_T27 l (j : Int)).f4.length ≤ 30) := by
    intro d
    induction d with
    | zero =>
      intro i hi hall
      refine ⟨decide ((l.length : Int) ≤ 60), Ev.step (f := fun _ => some (decide ((l.length : Int) ≤ 60))) (fun k => ?_) (Ev.now _), fun h => ⟨by have := of_decide_eq_true h; omega, fun j hj => hall j (by omega)⟩⟩
      simp only [grapevinelaw21_small.l0]
      rw [if_neg (by omega)]
    | succ d ih =>
      intro i hi hall
      have hw : wrap64 ((i : Int) + 1) = ((i + 1 : Nat) : Int) := by unfold wrap64; omega
      by_cases hb : ((rd_T27 l (i : Int)).f4.length : Int) > 30
      · refine ⟨false, Ev.step (f := fun _ => some false) (fun k => ?_) (Ev.now _), fun h => by cases h⟩
        simp only [grapevinelaw21_small.l0]
        rw [if_pos (by omega), if_pos (by omega), if_pos (by omega), if_pos hb]
      · obtain ⟨b, h1, h2⟩ := ih (i + 1) (by omega) (fun j hj => by
          rcases Nat.lt_or_ge j i with h | h
          · exact hall j h
          · obtain rfl : j = i := by omega
            omega)
        refine ⟨b, Ev.step (fun k => ?_) h1, h2⟩
        simp only [grapevinelaw21_small.l0]
        rw [if_pos (by omega), if_pos (by omega), if_pos (by omega), if_neg hb, hw]
  obtain ⟨b, h1, h2⟩ := go l.length 0 (by omega) (fun j hj => absurd hj (by omega))
  refine ⟨b, h1, fun hb => ⟨(h2 hb).1, fun e he => ?_⟩⟩
  obtain ⟨j, hj, rfl⟩ := List.mem_iff_getElem.mp he
  have := (h2 hb).2 j hj
  unfold rd_T27 at this
  rw [List.getD_eq_getElem?_getD, Int.toNat_natCast, List.getElem?_eq_getElem hj] at this
  exact this
theorem anchor_true : grapevinelaw21_anchor.f = some true := rfl

theorem idx_pos (p : S27 → Bool) : ∀ (l : List S27) (k : Nat), 0 ≤ idxFrom p k l ↔ l.any p = true
  | [], k => ⟨fun h => by simp only [idxFrom] at h; omega, fun h => by cases h⟩
  | e :: l, k => by
    simp only [idxFrom, List.any_cons]
    by_cases h : p e = true
    · rw [if_pos h, h, Bool.true_or]
      exact ⟨fun _ => rfl, fun _ => Int.natCast_nonneg k⟩
    · rw [if_neg h, Bool.eq_false_iff.mpr h, Bool.false_or]
      exact idx_pos p l (k + 1)
theorem idx_any (p : S27 → Bool) (l : List S27) (k : Nat) : decide (0 ≤ idxFrom p k l) = l.any p := by
  rw [Bool.eq_iff_iff, decide_eq_true_iff]
  exact idx_pos p l k
theorem wp64 {x : Int} (h1 : -9223372036854775808 ≤ x) (h2 : x ≤ 9223372036854775807) : wrap64 x = x := by unfold wrap64; omega
theorem any_snoc (p : S27 → Bool) (l : List S27) (j : Nat) (h : j < l.length) : (l.take (j + 1)).any p = ((l.take j).any p || p (rd_T27 l (j : Int))) := by
  have hr : rd_T27 l (j : Int) = l[j] := by unfold rd_T27; rw [List.getD_eq_getElem?_getD, Int.toNat_natCast, List.getElem?_eq_getElem h]; rfl
  rw [hr, List.take_succ_eq_append_getElem h, List.any_append]
  simp
theorem loop2 (l : List S27) (r : Int) (i m : Nat) (c v : Int) (e : S27) (who : List Int) (wl : Int) (hi : i < l.length) (hl : l.length ≤ 60)
    (hnext : Ev (fun k => grapevinelaw21_JudgeFounds.l1 k l r i (if (l.take i).any (gave v e) = true then wrap64 (c + 1) else c) l l.length i who wl (wrap64 ((m : Int) + 1)) e.f0 e.f1 e.f2 e.f3 e.f4) true) (d : Nat) :
    ∀ j : Nat, j + d = i → Ev (fun k => grapevinelaw21_JudgeFounds.l2 k l r i c v (((l.take i).take j).any (gave v e)) l l.length i who wl m (l.take i) i j e.f0 e.f1 e.f2 e.f3 e.f4) true := by
  have hlen : (l.take i).length = i := by simp; omega
  induction d with
  | zero =>
    intro j hj
    obtain rfl : j = i := by omega
    refine Ev.step (fun k => ?_) hnext
    simp only [grapevinelaw21_JudgeFounds.l2]
    rw [if_neg (by omega), List.take_of_length_le (by omega)]
    split <;> rfl
  | succ d ih =>
    intro j hj
    have hw : wrap64 ((j : Int) + 1) = ((j + 1 : Nat) : Int) := wp64 (by omega) (by omega)
    have hs := any_snoc (gave v e) (l.take i) j (by omega)
    have hnx := ih (j + 1) (by omega)
    obtain ⟨o, ho⟩ : ∃ o, rd_T27 (l.take i) (j : Int) = o := ⟨_, rfl⟩
    rw [ho] at hs
    refine Ev.step (fun k => ?_) hnx
    simp only [grapevinelaw21_JudgeFounds.l2]
    rw [if_pos (by omega), if_pos (by omega), if_pos (by omega), ho, hw, hs]
    cases hg : ((l.take i).take j).any (gave v e) with
    | true => simp
    | false =>
      rw [if_neg (by decide), Bool.false_or]
      unfold gave
      by_cases h0 : o.f0 = 1
      · by_cases h1 : o.f1 = v
        · by_cases h2 : o.f2 = e.f1
          · simp [h0, h1, h2]
          · rw [beq_eq_false_iff_ne.mpr h2]
            simp [h0, h1, h2]
        · rw [beq_eq_false_iff_ne.mpr h1]
          simp [h0, h1]
      · rw [beq_eq_false_iff_ne.mpr h0]
        simp [h0]
theorem loop1 (l : List S27) (r : Int) (i : Nat) (hi : i < l.length) (hl : l.length ≤ 60) (e : S27) (he : rd_T27 l (i : Int) = e) (hw30 : e.f4.length ≤ 30) (hk3 : e.f0 = 3)
    (hyes : unfAt l i = true → r = i) (hno : unfAt l i = false → Ev (fun k => grapevinelaw21_JudgeFounds.l0 k l r l l.length ((i + 1 : Nat) : Int)) true) (d : Nat) :
    ∀ m : Nat, m + d = e.f4.length → Ev (fun k => grapevinelaw21_JudgeFounds.l1 k l r i (given e (l.take i) (e.f4.take m)) l l.length i e.f4 e.f4.length m e.f0 e.f1 e.f2 e.f3 e.f4) true := by
  have hwi : wrap64 ((i : Int) + 1) = ((i + 1 : Nat) : Int) := wp64 (by omega) (by omega)
  have hlen : ((l.take i).length : Int) = i := by simp; omega
  induction d with
  | zero =>
    intro m hm
    obtain rfl : m = e.f4.length := by omega
    have hle := given_le e (l.take i) e.f4
    have hun : unfAt l i = decide (given e (l.take i) e.f4 < e.f4.length / 2 + 1) := by
      unfold unfAt
      rw [he, hk3]
      rfl
    rw [List.take_length]
    have h2 : wrap64 (2 * ((given e (l.take i) e.f4 : Nat) : Int)) = 2 * ((given e (l.take i) e.f4 : Nat) : Int) := wp64 (by omega) (by omega)
    cases hu : unfAt l i with
    | true =>
      rw [hu] at hun
      have hlt := of_decide_eq_true hun.symm
      refine Ev.step (f := fun _ => some true) (fun k => ?_) (Ev.now true)
      simp only [grapevinelaw21_JudgeFounds.l1]
      rw [if_neg (by omega), h2, if_pos (by omega), hyes hu]
      simp
    | false =>
      rw [hu] at hun
      have hge := of_decide_eq_false hun.symm
      refine Ev.step (fun k => ?_) (hno hu)
      simp only [grapevinelaw21_JudgeFounds.l1]
      rw [if_neg (by omega), h2, if_neg (by omega), hwi]
  | succ d ih =>
    intro m hm
    have hmt : m < e.f4.length := by omega
    have hwm : wrap64 ((m : Int) + 1) = ((m + 1 : Nat) : Int) := wp64 (by omega) (by omega)
    have hgm : given e (l.take i) (e.f4.take m) ≤ m := Nat.le_trans (given_le _ _ _) (by rw [List.length_take]; omega)
    have hsn := given_snoc e (l.take i) m hmt
    rw [show decide (0 ≤ idxFrom (gave (rd e.f4 (m : Int)) e) 0 (l.take i)) = (l.take i).any (gave (rd e.f4 (m : Int)) e) from idx_any _ _ 0] at hsn
    obtain ⟨v, hv⟩ : ∃ v, rd e.f4 (m : Int) = v := ⟨_, rfl⟩
    rw [hv] at hsn
    have hnx := ih (m + 1) (by omega)
    rw [hsn] at hnx
    obtain ⟨c, hc⟩ : ∃ c, given e (l.take i) (e.f4.take m) = c := ⟨_, rfl⟩
    rw [hc] at hnx hgm ⊢
    have hnx2 : Ev (fun k => grapevinelaw21_JudgeFounds.l1 k l r i (if (l.take i).any (gave v e) = true then wrap64 ((c : Int) + 1) else (c : Int)) l l.length i e.f4 e.f4.length (wrap64 ((m : Int) + 1)) e.f0 e.f1 e.f2 e.f3 e.f4) true := by
      rw [hwm]
      by_cases ha : (l.take i).any (gave v e) = true
      · rw [if_pos ha] at hnx ⊢
        rw [wp64 (by omega) (by omega)]
        exact hnx
      · rw [if_neg ha] at hnx ⊢
        exact hnx
    refine Ev.step (fun k => ?_) (loop2 l r i m c v e e.f4 e.f4.length hi hl hnx2 i 0 (by omega))
    simp only [grapevinelaw21_JudgeFounds.l1]
    rw [if_pos (by omega), if_pos (by omega), if_pos (by omega), if_pos (by omega), if_pos (by omega), Int.toNat_natCast, hv]
    simp only [Option.bind_some, List.take_zero, List.any_nil]
    rw [hlen]
    rfl
theorem loop0 (l : List S27) (r : Int) (hl : l.length ≤ 60) (hs : ∀ e ∈ l, e.f4.length ≤ 30) (d : Nat) : ∀ i : Nat, i + d = l.length → unfFrom l d i = r → Ev (fun k => grapevinelaw21_JudgeFounds.l0 k l r l l.length i) true := by
  induction d with
  | zero =>
    intro i hi hr
    have hr' : r = -1 := hr.symm
    refine Ev.step (f := fun _ => some true) (fun k => ?_) (Ev.now true)
    simp only [grapevinelaw21_JudgeFounds.l0]
    rw [if_neg (by omega), hr']
    rfl
  | succ d ih =>
    intro i hi hr
    have hwi : wrap64 ((i : Int) + 1) = ((i + 1 : Nat) : Int) := wp64 (by omega) (by omega)
    have hil : i < l.length := by omega
    simp only [unfFrom] at hr
    obtain ⟨e, he⟩ : ∃ e, rd_T27 l (i : Int) = e := ⟨_, rfl⟩
    by_cases hk3 : e.f0 = 3
    · have hyes : unfAt l i = true → r = i := fun h => by rw [if_pos h] at hr; exact hr.symm
      have hno : unfAt l i = false → Ev (fun k => grapevinelaw21_JudgeFounds.l0 k l r l l.length ((i + 1 : Nat) : Int)) true := fun h => ih (i + 1) (by omega) (by rw [if_neg (by rw [h]; decide)] at hr; exact hr)
      have hem : e ∈ l := he ▸ rd_mem l i hil
      refine Ev.step (fun k => ?_) (loop1 l r i hil hl e he (hs e hem) hk3 hyes hno e.f4.length 0 (by omega))
      simp only [grapevinelaw21_JudgeFounds.l0]
      rw [if_pos (by omega), if_pos (by omega), if_pos (by omega), he, if_pos hk3]
      rfl
    · have hu : unfAt l i = false := by
        unfold unfAt
        rw [he, beq_eq_false_iff_ne.mpr hk3]
        rfl
      rw [if_neg (by rw [hu]; decide)] at hr
      refine Ev.step (fun k => ?_) (ih (i + 1) (by omega) hr)
      simp only [grapevinelaw21_JudgeFounds.l0]
      rw [if_pos (by omega), if_pos (by omega), if_pos (by omega), he, if_neg hk3, hwi]
theorem law (l : List S27) (hl : l.length ≤ 9223372036854775807) : ∃ k, grapevinelaw21_JudgeFounds.f k l = some true := by
  apply Ev.rounds
  obtain ⟨b, h1, h2⟩ := small_ends l hl
  have key : ∀ g : Nat → Bool → Option Bool, (∀ k, grapevinelaw21_JudgeFounds.f k l = (grapevinelaw21_small.f k l).bind (g k)) → Ev (fun k => g k b) true → Ev (fun k => grapevinelaw21_JudgeFounds.f k l) true := fun g hg h => Ev.congr hg (Ev.bind h1 h)
  refine key (fun k t => if t = true then (judge_Unfounded.f l).bind fun t105 => grapevinelaw21_JudgeFounds.l0 k l t105 l l.length 0 else some true) (fun k => ?_) ?_
  · unfold grapevinelaw21_JudgeFounds.f; rw [anchor_true]; simp
  · cases b with
    | false => exact Ev.congr (fun k => by simp) (Ev.now true)
    | true =>
      obtain ⟨h3, h4⟩ := h2 rfl
      exact Ev.congr (fun k => by simp [judge_Unfounded.f]) (loop0 l _ h3 h4 l.length 0 (by omega) rfl)

end Go.Proofs.Ytcpiccgnaecdkaa.JudgeFoundsPure
