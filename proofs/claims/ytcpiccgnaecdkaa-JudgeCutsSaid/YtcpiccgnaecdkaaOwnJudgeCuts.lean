/- The plain law of JudgeCuts: what is found in events is found in any more of them that begin so, at the same place; nothing is found in a beginning that ends ahead of it. For every list of events. -/
import Derived.Test.YtcpiccgnaecdkaaQJudgeCutsa
namespace Go.Proofs.Ytcpiccgnaecdkaa.JudgeCutsPure
open Go.RowKit Go.Proofs.Ytcpiccgnaecdkaa.QJudgeCuts Go.Proofs.YtcpiccgnaecdkaaW.PrintWords Go.Proofs.YtcpiccgnaecdkaaW.PrintLast Go.Proofs.YtcpiccgnaecdkaaW.PrintMore
set_option linter.unusedVariables false
set_option linter.unusedSimpArgs false

theorem at_take (l : List S27) (i j : Nat) (h : j < i) : rd_T27 (l.take i) (j : Int) = rd_T27 l (j : Int) := by
  unfold rd_T27
  rw [List.getD_eq_getElem?_getD, List.getD_eq_getElem?_getD, Int.toNat_natCast, List.getElem?_take, if_pos h]
theorem small_ends (l : List S27) (hl : l.length ≤ 9223372036854775807) : ∃ b, Ev (fun k => grapevinelaw21_small.f k l) b ∧ (b = true → l.length ≤ 60 ∧ ∀ e ∈ l, e.f4.length ≤ 30) := by
  have go : ∀ (d i : Nat), i + d = l.length → (∀ j, j < i → (rd_T27 l (j : Int)).f4.length ≤ 30) → ∃ b, Ev (fun k => grapevinelaw21_small.l0 k l l l.length i) b ∧ (b = true → l.length ≤ 60 ∧ ∀ j, j < l.length → (rd_T27 l (j : Int)).f4.length ≤ 30) := by
    intro d
    induction d with
    | zero =>
      intro i hi hall
      refine ⟨decide ((l.length : Int) ≤ 60), Ev.step (f := fun _ => some (decide ((l.length : Int) ≤ 60))) (fun k => ?_) (Ev.now _), fun h => ⟨by have := of_decide_eq_true h; omega, fun j hj => hall j (by omega)⟩⟩
      simp only [grapevinelaw21_small.l0]
      rw [if_neg (by omega)]
    | succ d ih =>
      intro i hi hall
      have hw : wrap64 ((i : Int) + 1) = ((i + 1 : Nat) : Int) := by unfold wrap64; omega
      by_cases hb : ((rd_T27 l (i : Int)).f4.length : Int) > 30
      · refine ⟨false, Ev.step (f := fun _ => some false) (fun k => ?_) (Ev.now _), fun h => by cases h⟩
        simp only [grapevinelaw21_small.l0]
        rw [if_pos (by omega), if_pos (by omega), if_pos (by omega), if_pos hb]
      · obtain ⟨b, h1, h2⟩ := ih (i + 1) (by omega) (fun j hj => by
          rcases Nat.lt_or_ge j i with h | h
          · exact hall j h
          · obtain rfl : j = i := by omega
            omega)
        refine ⟨b, Ev.step (fun k => ?_) h1, h2⟩
        simp only [grapevinelaw21_small.l0]
        rw [if_pos (by omega), if_pos (by omega), if_pos (by omega), if_neg hb, hw]
  obtain ⟨b, h1, h2⟩ := go l.length 0 (by omega) (fun j hj => absurd hj (by omega))
  refine ⟨b, h1, fun hb => ⟨(h2 hb).1, fun e he => ?_⟩⟩
  obtain ⟨j, hj, rfl⟩ := List.mem_iff_getElem.mp he
  have := (h2 hb).2 j hj
  unfold rd_T27 at this
  rw [List.getD_eq_getElem?_getD, Int.toNat_natCast, List.getElem?_eq_getElem hj] at this
  exact this
theorem anchor_true : grapevinelaw21_anchor.f = some true := rfl

/-! What was done twice: the first place at which it is. -/
def dbl (l : List S27) (j i : Nat) : Prop := tr (rd_T27 l (j : Int)) = tr (rd_T27 l (i : Int)) ∧ ((rd_T27 l (i : Int)).f0 = 1 ∨ (rd_T27 l (i : Int)).f0 = 3)
def Again (l : List S27) (i : Nat) : Prop := ∃ j, j < i ∧ dbl l j i
def Char (l : List S27) (r : Int) : Prop := (r = -1 ∧ ∀ i, i < l.length → ¬ Again l i) ∨ ∃ i : Nat, r = i ∧ i < l.length ∧ Again l i ∧ ∀ i', i' < i → ¬ Again l i'
theorem Char.unique {l : List S27} {r s : Int} (h : Char l r) (k : Char l s) : r = s := by
  rcases h with ⟨rfl, h⟩ | ⟨i, rfl, hi, ha, hf⟩
  · rcases k with ⟨rfl, _⟩ | ⟨i, rfl, hi, ha, _⟩
    · rfl
    · exact absurd ha (h i hi)
  · rcases k with ⟨rfl, k⟩ | ⟨j, rfl, hj, hb, hg⟩
    · exact absurd ha (k i hi)
    · rcases Nat.lt_trichotomy i j with g | g | g
      · exact absurd ha (hg i g)
      · rw [g]
      · exact absurd hb (hf j g)
theorem from_char (l : List S27) (d : Nat) : ∀ (k : Nat) (S : List (Int × Int × Int)), k + d = l.length → (∀ t, S.contains t = true ↔ ∃ j, j < k ∧ tr (rd_T27 l (j : Int)) = t ∧ ((rd_T27 l (j : Int)).f0 = 1 ∨ (rd_T27 l (j : Int)).f0 = 3)) → (∀ i, i < k → ¬ Again l i) → Char l (twiceFrom S k (l.drop k)) := by
  induction d with
  | zero =>
    intro k S hk hS hn
    rw [List.drop_of_length_le (by omega)]
    exact .inl ⟨rfl, fun i hi => hn i (by omega)⟩
  | succ d ih =>
    intro k S hk hS hn
    rw [drop_at l k (by omega)]
    simp only [twiceFrom]
    obtain ⟨e, he⟩ : ∃ e, rd_T27 l (k : Int) = e := ⟨_, rfl⟩
    rw [he]
    by_cases h13 : e.f0 = 1 ∨ e.f0 = 3
    · rw [if_neg (by omega)]
      by_cases hc : S.contains (tr e) = true
      · rw [if_pos hc]
        obtain ⟨j, hj, ht, _⟩ := (hS _).mp hc
        exact .inr ⟨k, rfl, by omega, ⟨j, hj, by rw [he]; exact ht, by rw [he]; exact h13⟩, hn⟩
      · rw [if_neg hc]
        refine ih (k + 1) _ (by omega) (fun t => ?_) (fun i hi => ?_)
        · rw [List.contains_cons, Bool.or_eq_true, beq_iff_eq, hS]
          constructor
          · rintro (rfl | ⟨j, hj, h⟩)
            · exact ⟨k, by omega, by rw [he], by rw [he]; exact h13⟩
            · exact ⟨j, by omega, h⟩
          · rintro ⟨j, hj, h1, h2⟩
            rcases Nat.lt_or_ge j k with g | g
            · exact .inr ⟨j, g, h1, h2⟩
            · obtain rfl : j = k := by omega
              rw [he] at h1
              exact .inl h1.symm
        · rcases Nat.lt_or_ge i k with g | g
          · exact hn i g
          · obtain rfl : i = k := by omega
            rintro ⟨j, hj, h1, h2⟩
            rw [he] at h1 h2
            refine hc ((hS _).mpr ⟨j, hj, h1, ?_⟩)
            have : (rd_T27 l (j : Int)).f0 = e.f0 := congrArg Prod.fst h1
            rw [this]; exact h2
    · rw [if_pos (by omega)]
      refine ih (k + 1) S (by omega) (fun t => ?_) (fun i hi => ?_)
      · rw [hS]
        constructor
        · rintro ⟨j, hj, h⟩
          exact ⟨j, by omega, h⟩
        · rintro ⟨j, hj, h1, h2⟩
          rcases Nat.lt_or_ge j k with g | g
          · exact ⟨j, g, h1, h2⟩
          · obtain rfl : j = k := by omega
            rw [he] at h2
            exact absurd h2 h13
      · rcases Nat.lt_or_ge i k with g | g
        · exact hn i g
        · obtain rfl : i = k := by omega
          rintro ⟨j, hj, h1, h2⟩
          rw [he] at h2
          exact h13 h2
theorem twice_char (l : List S27) : Char l (twiceFrom [] 0 l) := from_char l l.length 0 [] (by omega) (fun t => by simp) (fun i hi => absurd hi (by omega))
theorem twice_some (l : List S27) (hw : ∀ e ∈ l, wfE e) : judge_Twice.f l = some (twiceFrom [] 0 l) := by
  unfold judge_Twice.f
  rw [if_pos hw]

/-- What is found in a beginning of n, and in the whole: nothing as yet, or the same. -/
def Same (n : Nat) (short whole : Int) : Prop := (short = -1 ∧ (whole = -1 ∨ (n : Int) ≤ whole)) ∨ (short = whole ∧ short ≠ -1)
theorem at_short (l : List S27) (n j : Nat) (h : j < n) : rd_T27 (l.take n) (j : Int) = rd_T27 l (j : Int) := at_take l n j h
theorem again_short (l : List S27) (n i : Nat) (h : i < n) : Again (l.take n) i ↔ Again l i := by
  unfold Again dbl
  rw [at_take l n i h]
  constructor
  · rintro ⟨j, hj, h1⟩
    exact ⟨j, hj, by rw [at_take l n j (by omega)] at h1; exact h1⟩
  · rintro ⟨j, hj, h1⟩
    exact ⟨j, hj, by rw [at_take l n j (by omega)]; exact h1⟩
theorem twice_same (l : List S27) (n : Nat) (hn : n ≤ l.length) : Same n (twiceFrom [] 0 (l.take n)) (twiceFrom [] 0 l) := by
  have hlen : (l.take n).length = n := by simp; omega
  obtain ⟨r, hr⟩ : ∃ r, twiceFrom [] 0 (l.take n) = r := ⟨_, rfl⟩
  obtain ⟨s, hs⟩ : ∃ s, twiceFrom [] 0 l = s := ⟨_, rfl⟩
  have h1 := twice_char (l.take n)
  have h2 := twice_char l
  rw [hr] at h1; rw [hs] at h2; rw [hr, hs]
  unfold Char at h1
  rw [hlen] at h1
  rcases h1 with ⟨rfl, h1⟩ | ⟨i, rfl, hi, ha, hf⟩
  · refine .inl ⟨rfl, ?_⟩
    rcases h2 with ⟨rfl, _⟩ | ⟨i, rfl, hi, ha, _⟩
    · exact .inl rfl
    · refine .inr ?_
      rcases Nat.lt_or_ge i n with g | g
      · exact absurd ((again_short l n i g).mpr ha) (h1 i g)
      · omega
  · refine .inr ⟨?_, by omega⟩
    have hc : Char l (i : Int) := .inr ⟨i, rfl, by omega, (again_short l n i hi).mp ha, fun i' hi' h => hf i' hi' ((again_short l n i' (by omega)).mpr h)⟩
    exact (h2.unique hc).symm
theorem unf_short (l : List S27) (n k : Nat) (h : k < n) : unfAt (l.take n) k = unfAt l k := by
  unfold unfAt
  rw [at_take l n k h, List.take_take, Nat.min_eq_left (by omega)]
theorem unf_same (l : List S27) (n : Nat) (hn : n ≤ l.length) (d : Nat) : ∀ k m : Nat, k + d = n → k + m = l.length → Same n (unfFrom (l.take n) d k) (unfFrom l m k) := by
  induction d with
  | zero =>
    intro k m hk hm
    refine .inl ⟨rfl, ?_⟩
    have go : ∀ m k, n ≤ k → unfFrom l m k = -1 ∨ (n : Int) ≤ unfFrom l m k := by
      intro m
      induction m with
      | zero => exact fun k _ => .inl rfl
      | succ m ih =>
        intro k hk
        simp only [unfFrom]
        split
        · exact .inr (by omega)
        · exact ih (k + 1) (by omega)
    exact go m k (by omega)
  | succ d ih =>
    intro k m hk hm
    obtain ⟨m, rfl⟩ : ∃ m', m = m' + 1 := ⟨m - 1, by omega⟩
    simp only [unfFrom]
    rw [unf_short l n k (by omega)]
    by_cases h : unfAt l k = true
    · rw [if_pos h, if_pos h]
      exact .inr ⟨rfl, by omega⟩
    · rw [if_neg h, if_neg h]
      exact ih (k + 1) m (by omega) (by omega)
theorem clash_short (l : List S27) (n k : Nat) (h : k < n) : clashAt (l.take n) k = clashAt l k := by
  unfold clashAt
  rw [at_take l n k h, List.take_take, Nat.min_eq_left (by omega)]
def Same2 (n : Nat) (c d a b : Int) : Prop := (c = -1 ∧ d = -1 ∧ (b = -1 ∨ (n : Int) ≤ b)) ∨ (c = a ∧ d = b ∧ d ≠ -1)
theorem clash_same (l : List S27) (n : Nat) (hn : n ≤ l.length) (d : Nat) : ∀ k m : Nat, k + d = n → k + m = l.length → Same2 n (clashFrom (l.take n) d k).1 (clashFrom (l.take n) d k).2 (clashFrom l m k).1 (clashFrom l m k).2 := by
  induction d with
  | zero =>
    intro k m hk hm
    refine .inl ⟨rfl, rfl, ?_⟩
    have go : ∀ m k, n ≤ k → (clashFrom l m k).2 = -1 ∨ (n : Int) ≤ (clashFrom l m k).2 := by
      intro m
      induction m with
      | zero => exact fun k _ => .inl rfl
      | succ m ih =>
        intro k hk
        simp only [clashFrom]
        split
        · refine .inr ?_
          show (n : Int) ≤ (k : Int)
          omega
        · exact ih (k + 1) (by omega)
    exact go m k (by omega)
  | succ d ih =>
    intro k m hk hm
    obtain ⟨m, rfl⟩ : ∃ m', m = m' + 1 := ⟨m - 1, by omega⟩
    simp only [clashFrom]
    rw [clash_short l n k (by omega)]
    by_cases h : 0 ≤ clashAt l k
    · rw [if_pos h, if_pos h]
      refine .inr ⟨rfl, rfl, ?_⟩
      show (k : Int) ≠ -1
      omega
    · rw [if_neg h, if_neg h]
      exact ih (k + 1) m (by omega) (by omega)
theorem C_take' {w : World} {A : Option Addr} {l : List S27} (h : Kd.C k27 w A l.length l) (k : Nat) (hk : k ≤ l.length) : Kd.C k27 w A (l.take k).length (l.take k) ∧ (l.take k).length = k := ⟨C_take h k hk, by simp; omega⟩
/-- The test of two findings, as the walk meets it. -/
def Seen (n : Nat) (x a : Int) : Prop := ((x == -1) = true ∧ (a == -1) = true) ∨ ((x == -1) = true ∧ (a == -1) = false ∧ (n : Int) ≤ a) ∨ ((x == -1) = false ∧ (x == a) = true)
theorem Same.seen {n : Nat} {x a : Int} (h : Same n x a) : Seen n x a := by
  rcases h with ⟨rfl, h⟩ | ⟨rfl, h⟩
  · by_cases e : a = -1
    · exact .inl ⟨by decide, beq_iff_eq.mpr e⟩
    · exact .inr (.inl ⟨by decide, beq_eq_false_iff_ne.mpr e, by rcases h with h | h; exact absurd h e; exact h⟩)
  · exact .inr (.inr ⟨beq_eq_false_iff_ne.mpr h, by simp⟩)
def Seen2 (n : Nat) (c d a b : Int) : Prop := ((d == -1) = true ∧ (c == -1) = true ∧ (b == -1) = true) ∨ ((d == -1) = true ∧ (c == -1) = true ∧ (b == -1) = false ∧ (n : Int) ≤ b) ∨ ((d == -1) = false ∧ (c == a) = true ∧ (d == b) = true)
theorem Same2.seen {n : Nat} {c d a b : Int} (h : Same2 n c d a b) : Seen2 n c d a b := by
  rcases h with ⟨rfl, rfl, h⟩ | ⟨rfl, rfl, h⟩
  · by_cases e : b = -1
    · exact .inl ⟨by decide, by decide, beq_iff_eq.mpr e⟩
    · exact .inr (.inl ⟨by decide, by decide, beq_eq_false_iff_ne.mpr e, by rcases h with h | h; exact absurd h e; exact h⟩)
  · exact .inr (.inr ⟨beq_eq_false_iff_ne.mpr h, by simp, by simp⟩)
set_option maxRecDepth 100000 in
set_option maxHeartbeats 8000000 in
theorem law_true (K : Nat) (A0 : Option Addr) (c0 : Nat) (l0 : List S27) (cut : Int) (w : World) (hr0 : Kd.C k27 w A0 l0.length l0) (hc0 : l0.length ≤ c0) (hw : ∀ e ∈ l0, wfE e) (hs : grapevinelaw21_small.f K l0 = some true) (hl : l0.length ≤ 60) (hcut : 0 ≤ cut) (hcm : cut ≤ 9223372036854775807) :
    Calls Try.prog 7 #[.slice A0 l0.length c0, .int .i64 cut] w fun e w' => e = .returned (.bool true) ∧ Below w.heap.size w w' := by
  have HR := Aside0.mk hr0
  have HS := Aside0.mk hs
  obtain ⟨n, hn⟩ : ∃ n : Nat, cut % ((l0.length : Int) + 1) = n := ⟨(cut % ((l0.length : Int) + 1)).toNat, by have := Int.emod_nonneg cut (show (l0.length : Int) + 1 ≠ 0 by omega); omega⟩
  have hnl : n ≤ l0.length := by have := Int.emod_lt_of_pos cut (show 0 < (l0.length : Int) + 1 by omega); omega
  have HT := Aside0.mk (hr0)
  obtain ⟨hct, hlt⟩ := C_take' hr0 n hnl
  have hws : ∀ e ∈ l0.take n, wfE e := fun e he => hw e (List.mem_of_mem_take he)
  obtain ⟨T, hT⟩ : ∃ T, twiceFrom [] 0 l0 = T := ⟨_, rfl⟩
  obtain ⟨T', hT'⟩ : ∃ T', twiceFrom [] 0 (l0.take n) = T' := ⟨_, rfl⟩
  obtain ⟨U, hU⟩ : ∃ U, unfFrom l0 l0.length 0 = U := ⟨_, rfl⟩
  obtain ⟨U', hU'⟩ : ∃ U', unfFrom (l0.take n) (l0.take n).length 0 = U' := ⟨_, rfl⟩
  obtain ⟨C, hC⟩ : ∃ C, clashFrom l0 l0.length 0 = C := ⟨_, rfl⟩
  obtain ⟨C', hC'⟩ : ∃ C', clashFrom (l0.take n) (l0.take n).length 0 = C' := ⟨_, rfl⟩
  have sT := (twice_same l0 n hnl).seen
  have sU := (unf_same l0 n hnl n 0 l0.length (by omega) (by omega)).seen
  have sC := clash_same l0 n hnl n 0 l0.length (by omega) (by omega)
  rw [hT, hT'] at sT
  rw [hlt] at hU' hC'
  rw [hU, hU'] at sU
  rw [hC, hC'] at sC
  obtain ⟨a, b⟩ := C
  obtain ⟨c, d⟩ := C'
  have GT := Aside0.mk (fun W (h : Below w.heap.size w W) => judge_Twice.calls A0 c0 l0 T W (Kd.C_below hr0 h) hc0 ((twice_some l0 hw).trans (congrArg some hT)))
  have GU := Aside0.mk (fun W (h : Below w.heap.size w W) => judge_Unfounded.calls A0 c0 l0 U W (Kd.C_below hr0 h) hc0 (congrArg some hU))
  have GC := Aside0.mk (fun W (h : Below w.heap.size w W) => judge_Clash.calls A0 c0 l0 a b W (Kd.C_below hr0 h) hc0 (congrArg some hC))
  have GT' := Aside0.mk (fun W (h : Below w.heap.size w W) => judge_Twice.calls A0 c0 (l0.take n) T' W (Kd.C_below hct h) (by omega) ((twice_some (l0.take n) hws).trans (congrArg some hT')))
  have GU' := Aside0.mk (fun W (h : Below w.heap.size w W) => judge_Unfounded.calls A0 c0 (l0.take n) U' W (Kd.C_below hct h) (by omega) (congrArg some (by rw [hlt]; exact hU')))
  have GC' := Aside0.mk (fun W (h : Below w.heap.size w W) => judge_Clash.calls A0 c0 (l0.take n) c d W (Kd.C_below hct h) (by omega) (congrArg some (by rw [hlt]; exact hC')))
  rw [hlt] at GT' GU' GC'
  have ST := Aside0.mk sT
  have SU := Aside0.mk sU
  have SC := Aside0.mk sC
  have HN := Aside0.mk hn
  clear hr0 hs hT hT' hU hU' hC hC' sT sU sC hct hlt hws hw hn
  go_enter Try.func7, Try.ntmps7
  go_upto_region 6 with (first | (go_at_call 8; go_loud (refine (grapevinelaw21_anchor.calls true _ rfl).mono ?_; rintro e w1 ⟨rfl, hb1⟩; have HB := Aside0.mk hb1; clear hb1)) | (go_at_call 9; go_loud (refine (grapevinelaw21_small.calls K A0 c0 l0 true _ (Kd.C_below HR.out HB.out) hc0 HS.out).mono ?_; rintro e w2 ⟨rfl, hb2⟩; have HB' := Aside0.mk (below_step HB.out hb2); clear hb2 HB; have HB := HB'; clear HB')))
  rw [HN.out]
  obtain ⟨m, hm⟩ : ∃ m : Int, (n : Int) = m := ⟨_, rfl⟩
  rw [hm]
  have h0 : 0 ≤ m := by omega
  have h1 : m ≤ c0 := by omega
  have HM := Aside0.mk hm
  have HNL := Aside0.mk hnl
  clear hm hnl
  go_upto_region 7 with fail
  rw [← HM.out, Int.toNat_natCast]
  clear h0 h1
  go_upto_region 9 with (first | (go_at_call 10; with_reducible refine (GT.out _ HB.out).mono ?_; rintro e w2 ⟨rfl, hb2⟩; have HB' := Aside0.mk (below_step HB.out hb2); clear hb2 HB; have HB := HB'; clear HB') | (go_at_call 11; with_reducible refine (GU.out _ HB.out).mono ?_; rintro e w2 ⟨rfl, hb2⟩; have HB' := Aside0.mk (below_step HB.out hb2); clear hb2 HB; have HB := HB'; clear HB') | (go_at_call 12; with_reducible refine (GC.out _ HB.out).mono ?_; rintro e w2 ⟨rfl, hb2⟩; have HB' := Aside0.mk (below_step HB.out hb2); clear hb2 HB; have HB := HB'; clear HB'))
  go_upto_region 11 with (first | (go_at_call 10; with_reducible refine (GT'.out _ HB.out).mono ?_; rintro e w2 ⟨rfl, hb2⟩; have HB' := Aside0.mk (below_step HB.out hb2); clear hb2 HB; have HB := HB'; clear HB') | (go_at_call 11; with_reducible refine (GU'.out _ HB.out).mono ?_; rintro e w2 ⟨rfl, hb2⟩; have HB' := Aside0.mk (below_step HB.out hb2); clear hb2 HB; have HB := HB'; clear HB') | (go_at_call 12; with_reducible refine (GC'.out _ HB.out).mono ?_; rintro e w2 ⟨rfl, hb2⟩; have HB' := Aside0.mk (below_step HB.out hb2); clear hb2 HB; have HB := HB'; clear HB'))
  rcases ST.out with ⟨p1, p2⟩ | ⟨p1, p2, p3⟩ | ⟨p1, p2⟩
  all_goals (go_upto_region 12 with fail)
  all_goals (first | clear p1 p2 p3 | clear p1 p2)
  all_goals (rcases SU.out with ⟨p1, p2⟩ | ⟨p1, p2, p3⟩ | ⟨p1, p2⟩)
  all_goals (go_upto_region 13 with fail)
  all_goals (first | clear p1 p2 p3 | clear p1 p2)
  all_goals (rcases SC.out.seen with ⟨p1, p2, p3⟩ | ⟨p1, p2, p3, p4⟩ | ⟨p1, p2, p3⟩)
  all_goals go_wp2
  all_goals (go_ret; exact ⟨rfl, HB.out⟩)
theorem law_false (K : Nat) (A0 : Option Addr) (c0 : Nat) (l0 : List S27) (cut : Int) (w : World) (hr0 : Kd.C k27 w A0 l0.length l0) (hc0 : l0.length ≤ c0) (hs : grapevinelaw21_small.f K l0 = some false) :
    Calls Try.prog 7 #[.slice A0 l0.length c0, .int .i64 cut] w fun e w' => e = .returned (.bool true) ∧ Below w.heap.size w w' := by
  have HR := Aside0.mk hr0
  have HS := Aside0.mk hs
  clear hr0 hs
  go_enter Try.func7, Try.ntmps7
  go_wp2_with (first | (go_at_call 8; go_loud (refine (grapevinelaw21_anchor.calls true _ rfl).mono ?_; rintro e w1 ⟨rfl, hb1⟩; have HB := Aside0.mk hb1; clear hb1)) | (go_at_call 9; go_loud (refine (grapevinelaw21_small.calls K A0 c0 l0 false _ (Kd.C_below HR.out HB.out) hc0 HS.out).mono ?_; rintro e w2 ⟨rfl, hb2⟩; have HB' := Aside0.mk (below_step HB.out hb2); clear hb2 HB; have HB := HB'; clear HB')))
  go_ret
  exact ⟨rfl, HB.out⟩
theorem law_low (K : Nat) (A0 : Option Addr) (c0 : Nat) (l0 : List S27) (cut : Int) (w : World) (hr0 : Kd.C k27 w A0 l0.length l0) (hc0 : l0.length ≤ c0) (hs : grapevinelaw21_small.f K l0 = some true) (hcut : cut < 0) :
    Calls Try.prog 7 #[.slice A0 l0.length c0, .int .i64 cut] w fun e w' => e = .returned (.bool true) ∧ Below w.heap.size w w' := by
  have HR := Aside0.mk hr0
  have HS := Aside0.mk hs
  clear hr0 hs
  go_enter Try.func7, Try.ntmps7
  go_wp2_with (first | (go_at_call 8; go_loud (refine (grapevinelaw21_anchor.calls true _ rfl).mono ?_; rintro e w1 ⟨rfl, hb1⟩; have HB := Aside0.mk hb1; clear hb1)) | (go_at_call 9; go_loud (refine (grapevinelaw21_small.calls K A0 c0 l0 true _ (Kd.C_below HR.out HB.out) hc0 HS.out).mono ?_; rintro e w2 ⟨rfl, hb2⟩; have HB' := Aside0.mk (below_step HB.out hb2); clear hb2 HB; have HB := HB'; clear HB')))
  go_ret
  exact ⟨rfl, HB.out⟩
theorem law_calls (A0 : Option Addr) (c0 : Nat) (l0 : List S27) (cut : Int) (w : World) (hr0 : Kd.C k27 w A0 l0.length l0) (hc0 : l0.length ≤ c0) (hw : ∀ e ∈ l0, wfE e) (hcut : (Lit.int .i64 cut).wf = true) :
    Calls Try.prog 7 #[.slice A0 l0.length c0, .int .i64 cut] w fun e w' => e = .returned (.bool true) ∧ Below w.heap.size w w' := by
  obtain ⟨b, ⟨K, hK⟩, h2⟩ := small_ends l0 hr0.2.1
  have hs := hK K (Nat.le_refl _)
  cases b with
  | false => exact law_false K A0 c0 l0 cut w hr0 hc0 hs
  | true =>
    by_cases g : cut < 0
    · exact law_low K A0 c0 l0 cut w hr0 hc0 hs g
    · exact law_true K A0 c0 l0 cut w hr0 hc0 hw hs (h2 rfl).1 (by omega) (by have h3 := hcut; simp [Lit.wf, IntKind.min, IntKind.max, IntKind.signed, IntKind.bits] at h3; omega)

end Go.Proofs.Ytcpiccgnaecdkaa.JudgeCutsPure
