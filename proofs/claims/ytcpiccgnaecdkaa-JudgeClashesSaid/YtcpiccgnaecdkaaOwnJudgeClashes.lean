/- The plain law of JudgeClashes: two that are told to clash won in one epoch by the same voters, and are unlike; ahead of them none do. For every list of events. -/
import Derived.Test.YtcpiccgnaecdkaaQJudgeClashesa
namespace Go.Proofs.Ytcpiccgnaecdkaa.JudgeClashesPure
open Go.RowKit Go.Proofs.Ytcpiccgnaecdkaa.QJudgeClashes Go.Proofs.YtcpiccgnaecdkaaW.PrintWords Go.Proofs.YtcpiccgnaecdkaaW.PrintLast Go.Proofs.YtcpiccgnaecdkaaW.PrintMore
set_option linter.unusedVariables false
set_option linter.unusedSimpArgs false

theorem at_take (l : List S27) (i j : Nat) (h : j < i) : rd_T27 (l.take i) (j : Int) = rd_T27 l (j : Int) := by
  unfold rd_T27
  rw [List.getD_eq_getElem?_getD, List.getD_eq_getElem?_getD, Int.toNat_natCast, List.getElem?_take, if_pos h]
theorem small_ends (l : List S27) (hl : l.length ≤ 9223372036854775807) : ∃ b, Ev (fun k => grapevinelaw21_small.f k l) b ∧ (b = true → l.length ≤ 60 ∧ ∀ e ∈ l, e.f4.length ≤ 30) := by
  have go : ∀ (d i : Nat), i + d = l.length → (∀ j, j < i → (rd_T27 l (j : Int)).f4.length ≤ 30) → ∃ b, Ev (fun k => grapevinelaw21_small.l0 k l l l.length i) b ∧ (b = true → l.length ≤ 60 ∧ ∀ j, j < l.length → (rd_T27 l (j : Int)).f4.length ≤ 30) := by
    intro d
    induction d with
    | zero =>
      intro i hi hall
      refine ⟨decide ((l.length : Int) ≤ 60), Ev.step (f := fun _ => some (decide ((l.length : Int) ≤ 60))) (fun k => ?_) (Ev.now _), fun h => ⟨by have := of_decide_eq_true h; omega, fun j hj => hall j (by omega)⟩⟩
      simp only [grapevinelaw21_small.l0]
      rw [if_neg (by omega)]
    | succ d ih =>
      intro i hi hall
      have hw : wrap64 ((i : Int) + 1) = ((i + 1 : Nat) : Int) := by unfold wrap64; omega
      by_cases hb : ((rd_T27 l (i : Int)).f4.length : Int) > 30
      · refine ⟨false, Ev.step (f := fun _ => some false) (fun k => ?_) (Ev.now _), fun h => by cases h⟩
        simp only [grapevinelaw21_small.l0]
        rw [if_pos (by omega), if_pos (by omega), if_pos (by omega), if_pos hb]
      · obtain ⟨b, h1, h2⟩ := ih (i + 1) (by omega) (fun j hj => by
          rcases Nat.lt_or_ge j i with h | h
          · exact hall j h
          · obtain rfl : j = i := by omega
            omega)
        refine ⟨b, Ev.step (fun k => ?_) h1, h2⟩
        simp only [grapevinelaw21_small.l0]
        rw [if_pos (by omega), if_pos (by omega), if_pos (by omega), if_neg hb, hw]
  obtain ⟨b, h1, h2⟩ := go l.length 0 (by omega) (fun j hj => absurd hj (by omega))
  refine ⟨b, h1, fun hb => ⟨(h2 hb).1, fun e he => ?_⟩⟩
  obtain ⟨j, hj, rfl⟩ := List.mem_iff_getElem.mp he
  have := (h2 hb).2 j hj
  unfold rd_T27 at this
  rw [List.getD_eq_getElem?_getD, Int.toNat_natCast, List.getElem?_eq_getElem hj] at this
  exact this
theorem anchor_true : grapevinelaw21_anchor.f = some true := rfl

theorem wp64 {x : Int} (h1 : -9223372036854775808 ≤ x) (h2 : x ≤ 9223372036854775807) : wrap64 x = x := by unfold wrap64; omega
theorem rd_get (xs : List Int) (k : Nat) (h : k < xs.length) : rd xs (k : Int) = xs[k] := by unfold rd; rw [List.getD_eq_getElem?_getD, Int.toNat_natCast, List.getElem?_eq_getElem h]; rfl
theorem ints_loop (xs ys : List Int) (hl : xs.length ≤ 30) (hn : xs.length = ys.length) (d : Nat) : ∀ k : Nat, k + d = xs.length → xs.take k = ys.take k → Ev (fun K => grapevinemade_Ints.l0 K ys xs xs.length k) (decide (xs = ys)) := by
  induction d with
  | zero =>
    intro k hk ht
    have he : xs = ys := by
      rw [List.take_of_length_le (by omega), List.take_of_length_le (by omega)] at ht
      exact ht
    rw [decide_eq_true he]
    refine Ev.step (f := fun _ => some true) (fun K => ?_) (Ev.now true)
    simp only [grapevinemade_Ints.l0]
    rw [if_neg (by omega)]
  | succ d ih =>
    intro k hk ht
    have hx : k < xs.length := by omega
    have hy : k < ys.length := by omega
    have hw : wrap64 ((k : Int) + 1) = ((k + 1 : Nat) : Int) := wp64 (by omega) (by omega)
    by_cases e : xs[k] = ys[k]
    · refine Ev.step (fun K => ?_) (ih (k + 1) (by omega) (by rw [List.take_succ_eq_append_getElem hx, List.take_succ_eq_append_getElem hy, ht, e]))
      simp only [grapevinemade_Ints.l0]
      rw [if_pos (by omega), if_pos (by omega), if_pos (by omega), if_pos (by omega), rd_get xs k hx, rd_get ys k hy, if_pos e, hw]
    · have hne : ¬ xs = ys := fun h => by subst h; exact e rfl
      rw [decide_eq_false hne]
      refine Ev.step (f := fun _ => some false) (fun K => ?_) (Ev.now false)
      simp only [grapevinemade_Ints.l0]
      rw [if_pos (by omega), if_pos (by omega), if_pos (by omega), if_pos (by omega), rd_get xs k hx, rd_get ys k hy, if_neg e]
theorem ints_ends (xs ys : List Int) (hl : xs.length ≤ 30) : Ev (fun K => grapevinemade_Ints.f K xs ys) (decide (xs = ys)) := by
  by_cases hn : xs.length = ys.length
  · refine Ev.congr (fun K => ?_) (ints_loop xs ys hl hn xs.length 0 (by omega) rfl)
    unfold grapevinemade_Ints.f
    rw [if_pos (by omega)]
    rfl
  · rw [decide_eq_false (fun h => hn (by rw [h]))]
    refine Ev.congr (fun K => ?_) (Ev.now false)
    unfold grapevinemade_Ints.f
    rw [if_neg (by omega)]
theorem loop1 (l : List S27) (r1 r2 : Int) (b : Nat) (hb : b < l.length) (hl : l.length ≤ 60) (e : S27) (h30 : e.f4.length ≤ 30) (q : Int)
    (hyes : 0 ≤ q → r1 = q ∧ r2 = b) (hno : q < 0 → Ev (fun k => grapevinelaw21_JudgeClashes.l0 k l r1 r2 l l.length ((b + 1 : Nat) : Int)) true) (d : Nat) :
    ∀ a : Nat, a + d = b → (if e.f0 = 3 then idxFrom (clashes e) a ((l.take b).drop a) else -1) = q → Ev (fun k => grapevinelaw21_JudgeClashes.l1 k l r1 r2 b l l.length b (l.take b) b a e.f0 e.f1 e.f2 e.f3 e.f4) true := by
  have hwb : wrap64 ((b : Int) + 1) = ((b + 1 : Nat) : Int) := wp64 (by omega) (by omega)
  have hlen : (l.take b).length = b := by simp; omega
  induction d with
  | zero =>
    intro a ha hq
    obtain rfl : a = b := by omega
    rw [List.drop_of_length_le (by omega)] at hq
    have hq1 : q < 0 := by
      split at hq
      · have : q = -1 := hq.symm
        omega
      · omega
    refine Ev.step (fun k => ?_) (hno hq1)
    simp only [grapevinelaw21_JudgeClashes.l1]
    rw [if_neg (by omega), hwb]
  | succ d ih =>
    intro a ha hq
    have hwa : wrap64 ((a : Int) + 1) = ((a + 1 : Nat) : Int) := wp64 (by omega) (by omega)
    rw [drop_at (l.take b) a (by omega)] at hq
    obtain ⟨o, ho⟩ : ∃ o, rd_T27 (l.take b) (a : Int) = o := ⟨_, rfl⟩
    rw [ho] at hq
    simp only [idxFrom] at hq
    have open_ : ∀ k, grapevinelaw21_JudgeClashes.l1 (k + 1) l r1 r2 b l l.length b (l.take b) b a e.f0 e.f1 e.f2 e.f3 e.f4 = if e.f0 = 3 then (if o.f0 = 3 then (if e.f3 = o.f3 then (if e.f1 = o.f1 then grapevinelaw21_JudgeClashes.l1 k l r1 r2 b l l.length b (l.take b) b ((a + 1 : Nat) : Int) e.f0 e.f1 e.f2 e.f3 e.f4 else (grapevinemade_Ints.f k e.f4 o.f4).bind fun t => if t = true then (if r1 = (a : Int) then some (r2 == (b : Int)) else some false) else grapevinelaw21_JudgeClashes.l1 k l r1 r2 b l l.length b (l.take b) b ((a + 1 : Nat) : Int) e.f0 e.f1 e.f2 e.f3 e.f4) else grapevinelaw21_JudgeClashes.l1 k l r1 r2 b l l.length b (l.take b) b ((a + 1 : Nat) : Int) e.f0 e.f1 e.f2 e.f3 e.f4) else grapevinelaw21_JudgeClashes.l1 k l r1 r2 b l l.length b (l.take b) b ((a + 1 : Nat) : Int) e.f0 e.f1 e.f2 e.f3 e.f4) else grapevinelaw21_JudgeClashes.l1 k l r1 r2 b l l.length b (l.take b) b ((a + 1 : Nat) : Int) e.f0 e.f1 e.f2 e.f3 e.f4 := by
      intro k
      simp only [grapevinelaw21_JudgeClashes.l1]
      rw [if_pos (by omega), if_pos (by omega), if_pos (by omega), ho, hwa]
    have key : ∀ (g : Nat → Option Bool), (∀ k, grapevinelaw21_JudgeClashes.l1 (k + 1) l r1 r2 b l l.length b (l.take b) b a e.f0 e.f1 e.f2 e.f3 e.f4 = g k) → Ev g true → Ev (fun k => grapevinelaw21_JudgeClashes.l1 k l r1 r2 b l l.length b (l.take b) b a e.f0 e.f1 e.f2 e.f3 e.f4) true := fun g hg h => Ev.step hg h
    by_cases he : e.f0 = 3
    · rw [if_pos he] at hq
      have go : clashes e o = false → Ev (fun k => grapevinelaw21_JudgeClashes.l1 k l r1 r2 b l l.length b (l.take b) b ((a + 1 : Nat) : Int) e.f0 e.f1 e.f2 e.f3 e.f4) true := fun hf => by
        refine ih (a + 1) (by omega) ?_
        rw [if_pos he]
        rw [if_neg (by rw [hf]; decide)] at hq
        exact hq
      by_cases h0 : o.f0 = 3
      · by_cases h3 : e.f3 = o.f3
        · by_cases h1 : e.f1 = o.f1
          · exact key _ (fun k => by rw [open_, if_pos he, if_pos h0, if_pos h3, if_pos h1]) (go (by unfold clashes; simp [h0, h3, h1]))
          · refine key _ (fun k => by rw [open_, if_pos he, if_pos h0, if_pos h3, if_neg h1]) (Ev.bind (ints_ends e.f4 o.f4 h30) ?_)
            by_cases h4 : e.f4 = o.f4
            · have hc : clashes e o = true := by unfold clashes; simp [h0, h3, h4, Ne.symm h1]
              rw [if_pos hc] at hq
              obtain ⟨q1, q2⟩ := hyes (by omega)
              refine Ev.congr (fun k => ?_) (Ev.now true)
              rw [if_pos (decide_eq_true h4), if_pos (by omega), q2]
              simp
            · have hc : clashes e o = false := by unfold clashes; simp [Ne.symm h4]
              refine Ev.congr (fun k => ?_) (go hc)
              rw [decide_eq_false h4, if_neg (by decide)]
        · exact key _ (fun k => by rw [open_, if_pos he, if_pos h0, if_neg h3]) (go (by unfold clashes; simp [Ne.symm h3]))
      · exact key _ (fun k => by rw [open_, if_pos he, if_neg h0]) (go (by unfold clashes; simp [h0]))
    · refine key _ (fun k => by rw [open_, if_neg he]) (ih (a + 1) (by omega) ?_)
      rw [if_neg he] at hq ⊢
      exact hq
theorem loop0 (l : List S27) (r1 r2 : Int) (hl : l.length ≤ 60) (hs : ∀ e ∈ l, e.f4.length ≤ 30) (d : Nat) : ∀ b : Nat, b + d = l.length → clashFrom l d b = (r1, r2) → Ev (fun k => grapevinelaw21_JudgeClashes.l0 k l r1 r2 l l.length b) true := by
  induction d with
  | zero =>
    intro b hb hr
    have hr' : (-1, -1) = (r1, r2) := hr
    simp only [Prod.mk.injEq] at hr'
    refine Ev.step (f := fun _ => some true) (fun k => ?_) (Ev.now true)
    simp only [grapevinelaw21_JudgeClashes.l0]
    rw [if_neg (by omega), if_pos hr'.1.symm, ← hr'.2]
    rfl
  | succ d ih =>
    intro b hb hr
    have hbl : b < l.length := by omega
    have hlen : ((l.take b).length : Int) = b := by simp; omega
    simp only [clashFrom] at hr
    obtain ⟨e, he⟩ : ∃ e, rd_T27 l (b : Int) = e := ⟨_, rfl⟩
    have hem : e ∈ l := he ▸ rd_mem l b hbl
    have hyes : 0 ≤ clashAt l b → r1 = clashAt l b ∧ r2 = b := fun h => by
      rw [if_pos h] at hr
      simp only [Prod.mk.injEq] at hr
      exact ⟨hr.1.symm, hr.2.symm⟩
    have hno : clashAt l b < 0 → Ev (fun k => grapevinelaw21_JudgeClashes.l0 k l r1 r2 l l.length ((b + 1 : Nat) : Int)) true := fun h => ih (b + 1) (by omega) (by rw [if_neg (by omega)] at hr; exact hr)
    refine Ev.step (fun k => ?_) (loop1 l r1 r2 b hbl hl e (hs e hem) (clashAt l b) hyes hno b 0 (by omega) (by unfold clashAt; rw [he]; rfl))
    simp only [grapevinelaw21_JudgeClashes.l0]
    rw [if_pos (by omega), if_pos (by omega), if_pos (by omega), if_pos (by omega), Int.toNat_natCast, he]
    simp only [Option.bind_some]
    rw [hlen]
    rfl
theorem law (l : List S27) (hl : l.length ≤ 9223372036854775807) : ∃ k, grapevinelaw21_JudgeClashes.f k l = some true := by
  apply Ev.rounds
  obtain ⟨b, h1, h2⟩ := small_ends l hl
  have key : ∀ g : Nat → Bool → Option Bool, (∀ k, grapevinelaw21_JudgeClashes.f k l = (grapevinelaw21_small.f k l).bind (g k)) → Ev (fun k => g k b) true → Ev (fun k => grapevinelaw21_JudgeClashes.f k l) true := fun g hg h => Ev.congr hg (Ev.bind h1 h)
  refine key (fun k t => if t = true then (judge_Clash.f l).bind fun bt107 => grapevinelaw21_JudgeClashes.l0 k l bt107.1 bt107.2 l l.length 0 else some true) (fun k => ?_) ?_
  · unfold grapevinelaw21_JudgeClashes.f; rw [anchor_true]; simp
  · cases b with
    | false => exact Ev.congr (fun k => by simp) (Ev.now true)
    | true =>
      obtain ⟨h3, h4⟩ := h2 rfl
      exact Ev.congr (fun k => by simp [judge_Clash.f]) (loop0 l _ _ h3 h4 l.length 0 (by omega) rfl)

end Go.Proofs.Ytcpiccgnaecdkaa.JudgeClashesPure
