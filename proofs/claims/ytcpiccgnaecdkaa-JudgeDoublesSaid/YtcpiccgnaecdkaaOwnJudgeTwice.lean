/- The plain law of JudgeTwice: what is told to be done twice was done ahead of it by the same one in the same epoch; up to it nothing was. For every list of events. -/
import Derived.Test.YtcpiccgnaecdkaaQJudgeTwicea
namespace Go.Proofs.Ytcpiccgnaecdkaa.JudgeTwicePure
open Go.RowKit Go.Proofs.Ytcpiccgnaecdkaa.QJudgeTwice Go.Proofs.YtcpiccgnaecdkaaW.PrintWords Go.Proofs.YtcpiccgnaecdkaaW.PrintLast Go.Proofs.YtcpiccgnaecdkaaW.PrintMore
set_option linter.unusedVariables false
set_option linter.unusedSimpArgs false

theorem at_take (l : List S27) (i j : Nat) (h : j < i) : rd_T27 (l.take i) (j : Int) = rd_T27 l (j : Int) := by
  unfold rd_T27
  rw [List.getD_eq_getElem?_getD, List.getD_eq_getElem?_getD, Int.toNat_natCast, List.getElem?_take, if_pos h]
theorem small_ends (l : List S27) (hl : l.length ≤ 9223372036854775807) : ∃ b, Ev (fun k => grapevinelaw21_small.f k l) b ∧ (b = true → l.length ≤ 60 ∧ ∀ e ∈ l, e.f4.length ≤ 30) := by
  have go : ∀ (d i : Nat), i + d = l.length → (∀ j, j < i → (rd_T27 l (j : Int)).f4.length ≤ 30) → ∃ b, Ev (fun k => grapevinelaw21_small.l0 k l l l.length i) b ∧ (b = true → l.length ≤ 60 ∧ ∀ j, j < l.length → (rd_T27 l (j : Int)).f4.length ≤ 30) := by
    intro d
    induction d with
    | zero =>
      intro i hi hall
      refine ⟨decide ((l.length : Int) ≤ 60), Ev.step (f := fun _ => some (decide ((l.length : Int) ≤ 60))) (fun k => ?_) (Ev.now _), fun h => ⟨by have := of_decide_eq_true h; omega, fun j hj => hall j (by omega)⟩⟩
      simp only [grapevinelaw21_small.l0]
      rw [if_neg (by omega)]
    | succ d ih =>
      intro i hi hall
      have hw : wrap64 ((i : Int) + 1) = ((i + 1 : Nat) : Int) := by unfold wrap64; omega
      by_cases hb : ((rd_T27 l (i : Int)).f4.length : Int) > 30
      · refine ⟨false, Ev.step (f := fun _ => some false) (fun k => ?_) (Ev.now _), fun h => by cases h⟩
        simp only [grapevinelaw21_small.l0]
        rw [if_pos (by omega), if_pos (by omega), if_pos (by omega), if_pos hb]
      · obtain ⟨b, h1, h2⟩ := ih (i + 1) (by omega) (fun j hj => by
          rcases Nat.lt_or_ge j i with h | h
          · exact hall j h
          · obtain rfl : j = i := by omega
            omega)
        refine ⟨b, Ev.step (fun k => ?_) h1, h2⟩
        simp only [grapevinelaw21_small.l0]
        rw [if_pos (by omega), if_pos (by omega), if_pos (by omega), if_neg hb, hw]
  obtain ⟨b, h1, h2⟩ := go l.length 0 (by omega) (fun j hj => absurd hj (by omega))
  refine ⟨b, h1, fun hb => ⟨(h2 hb).1, fun e he => ?_⟩⟩
  obtain ⟨j, hj, rfl⟩ := List.mem_iff_getElem.mp he
  have := (h2 hb).2 j hj
  unfold rd_T27 at this
  rw [List.getD_eq_getElem?_getD, Int.toNat_natCast, List.getElem?_eq_getElem hj] at this
  exact this
theorem anchor_true : grapevinelaw21_anchor.f = some true := rfl

/-! What was done twice: the first place at which it is. -/
def dbl (l : List S27) (j i : Nat) : Prop := tr (rd_T27 l (j : Int)) = tr (rd_T27 l (i : Int)) ∧ ((rd_T27 l (i : Int)).f0 = 1 ∨ (rd_T27 l (i : Int)).f0 = 3)
def Again (l : List S27) (i : Nat) : Prop := ∃ j, j < i ∧ dbl l j i
def Char (l : List S27) (r : Int) : Prop := (r = -1 ∧ ∀ i, i < l.length → ¬ Again l i) ∨ ∃ i : Nat, r = i ∧ i < l.length ∧ Again l i ∧ ∀ i', i' < i → ¬ Again l i'
theorem Char.unique {l : List S27} {r s : Int} (h : Char l r) (k : Char l s) : r = s := by
  rcases h with ⟨rfl, h⟩ | ⟨i, rfl, hi, ha, hf⟩
  · rcases k with ⟨rfl, _⟩ | ⟨i, rfl, hi, ha, _⟩
    · rfl
    · exact absurd ha (h i hi)
  · rcases k with ⟨rfl, k⟩ | ⟨j, rfl, hj, hb, hg⟩
    · exact absurd ha (k i hi)
    · rcases Nat.lt_trichotomy i j with g | g | g
      · exact absurd ha (hg i g)
      · rw [g]
      · exact absurd hb (hf j g)
theorem from_char (l : List S27) (d : Nat) : ∀ (k : Nat) (S : List (Int × Int × Int)), k + d = l.length → (∀ t, S.contains t = true ↔ ∃ j, j < k ∧ tr (rd_T27 l (j : Int)) = t ∧ ((rd_T27 l (j : Int)).f0 = 1 ∨ (rd_T27 l (j : Int)).f0 = 3)) → (∀ i, i < k → ¬ Again l i) → Char l (twiceFrom S k (l.drop k)) := by
  induction d with
  | zero =>
    intro k S hk hS hn
    rw [List.drop_of_length_le (by omega)]
    exact .inl ⟨rfl, fun i hi => hn i (by omega)⟩
  | succ d ih =>
    intro k S hk hS hn
    rw [drop_at l k (by omega)]
    simp only [twiceFrom]
    obtain ⟨e, he⟩ : ∃ e, rd_T27 l (k : Int) = e := ⟨_, rfl⟩
    rw [he]
    by_cases h13 : e.f0 = 1 ∨ e.f0 = 3
    · rw [if_neg (by omega)]
      by_cases hc : S.contains (tr e) = true
      · rw [if_pos hc]
        obtain ⟨j, hj, ht, _⟩ := (hS _).mp hc
        exact .inr ⟨k, rfl, by omega, ⟨j, hj, by rw [he]; exact ht, by rw [he]; exact h13⟩, hn⟩
      · rw [if_neg hc]
        refine ih (k + 1) _ (by omega) (fun t => ?_) (fun i hi => ?_)
        · rw [List.contains_cons, Bool.or_eq_true, beq_iff_eq, hS]
          constructor
          · rintro (rfl | ⟨j, hj, h⟩)
            · exact ⟨k, by omega, by rw [he], by rw [he]; exact h13⟩
            · exact ⟨j, by omega, h⟩
          · rintro ⟨j, hj, h1, h2⟩
            rcases Nat.lt_or_ge j k with g | g
            · exact .inr ⟨j, g, h1, h2⟩
            · obtain rfl : j = k := by omega
              rw [he] at h1
              exact .inl h1.symm
        · rcases Nat.lt_or_ge i k with g | g
          · exact hn i g
          · obtain rfl : i = k := by omega
            rintro ⟨j, hj, h1, h2⟩
            rw [he] at h1 h2
            refine hc ((hS _).mpr ⟨j, hj, h1, ?_⟩)
            have : (rd_T27 l (j : Int)).f0 = e.f0 := congrArg Prod.fst h1
            rw [this]; exact h2
    · rw [if_pos (by omega)]
      refine ih (k + 1) S (by omega) (fun t => ?_) (fun i hi => ?_)
      · rw [hS]
        constructor
        · rintro ⟨j, hj, h⟩
          exact ⟨j, by omega, h⟩
        · rintro ⟨j, hj, h1, h2⟩
          rcases Nat.lt_or_ge j k with g | g
          · exact ⟨j, g, h1, h2⟩
          · obtain rfl : j = k := by omega
            rw [he] at h2
            exact absurd h2 h13
      · rcases Nat.lt_or_ge i k with g | g
        · exact hn i g
        · obtain rfl : i = k := by omega
          rintro ⟨j, hj, h1, h2⟩
          rw [he] at h2
          exact h13 h2
theorem twice_char (l : List S27) : Char l (twiceFrom [] 0 l) := from_char l l.length 0 [] (by omega) (fun t => by simp) (fun i hi => absurd hi (by omega))
theorem twice_some (l : List S27) (hw : ∀ e ∈ l, wfE e) : judge_Twice.f l = some (twiceFrom [] 0 l) := by
  unfold judge_Twice.f
  rw [if_pos hw]

theorem wp64 {x : Int} (h1 : -9223372036854775808 ≤ x) (h2 : x ≤ 9223372036854775807) : wrap64 x = x := by unfold wrap64; omega
def Down (l : List S27) (m : Nat) (w : Int) : Prop := (w = -1 ∧ ∀ i, m ≤ i → i < l.length → ¬ Again l i) ∨ ∃ i : Nat, w = i ∧ m ≤ i ∧ i < l.length ∧ Again l i ∧ ∀ i', m ≤ i' → i' < i → ¬ Again l i'
def Inn (l : List S27) (i j : Nat) (w0 w : Int) : Prop := (w = (i : Int) ∧ ∃ j', j' < j ∧ dbl l j' i) ∨ (w = w0 ∧ ∀ j', j' < j → ¬ dbl l j' i)
theorem Down.step {l : List S27} {i : Nat} {w0 w : Int} (hi : i < l.length) (h : Down l (i + 1) w0) (k : Inn l i i w0 w) : Down l i w := by
  rcases k with ⟨rfl, h2⟩ | ⟨rfl, h2⟩
  · exact .inr ⟨i, rfl, Nat.le_refl _, hi, h2, fun i' h3 h4 => by omega⟩
  · have hm : ¬ Again l i := fun ⟨j, hj, hd⟩ => h2 j hj hd
    rcases h with ⟨h1, h3⟩ | ⟨i1, h1, h3, h4, h5, h6⟩
    · refine .inl ⟨h1, fun i' hi' hi2 => ?_⟩
      rcases Nat.lt_or_ge i i' with g | g
      · exact h3 i' g hi2
      · obtain rfl : i' = i := by omega
        exact hm
    · refine .inr ⟨i1, h1, by omega, h4, h5, fun i' hi' hi2 => ?_⟩
      rcases Nat.lt_or_ge i i' with g | g
      · exact h6 i' g hi2
      · obtain rfl : i' = i := by omega
        exact hm
theorem Down.done {l : List S27} {w : Int} (h : Down l 0 w) : twiceFrom [] 0 l = w := by
  refine (twice_char l).unique ?_
  rcases h with ⟨h1, h2⟩ | ⟨i, h1, _, h3, h4, h5⟩
  · exact .inl ⟨h1, fun i hi => h2 i (by omega) hi⟩
  · exact .inr ⟨i, h1, h3, h4, fun i' hi' => h5 i' (by omega) hi'⟩
theorem Inn.hit {l : List S27} {i j : Nat} {w0 w : Int} (_ : Inn l i j w0 w) (h : dbl l j i) : Inn l i (j + 1) w0 i := .inl ⟨rfl, j, by omega, h⟩
theorem Inn.miss {l : List S27} {i j : Nat} {w0 w : Int} (k : Inn l i j w0 w) (h : ¬ dbl l j i) : Inn l i (j + 1) w0 w := by
  rcases k with ⟨h1, j', h2, h3⟩ | ⟨h1, h2⟩
  · exact .inl ⟨h1, j', by omega, h3⟩
  · refine .inr ⟨h1, fun j' hj' => ?_⟩
    rcases Nat.lt_or_ge j' j with g | g
    · exact h2 j' g
    · obtain rfl : j' = j := by omega
      exact h
def OutRel (l : List S27) (w0 : World) (want i : Value) (wr : World) : Prop :=
  ∃ (m : Nat) (v w : Int), m ≤ l.length ∧ v = (m : Int) - 1 ∧ i = .int .i64 v ∧ want = .int .i64 w ∧ Down l m w ∧ Below w0.heap.size w0 wr
def InRel (l : List S27) (i : Nat) (wb : Int) (w0 : World) (want jv : Value) (wr : World) : Prop :=
  ∃ (j : Nat) (w : Int), j ≤ i ∧ jv = .int .i64 j ∧ want = .int .i64 w ∧ Inn l i j wb w ∧ Below w0.heap.size w0 wr
theorem dbl_iff {l : List S27} {i j : Nat} {a b : S27} (ha : rd_T27 l (j : Int) = a) (hb : rd_T27 l (i : Int) = b) : dbl l j i ↔ (a.f0 = b.f0 ∧ a.f1 = b.f1 ∧ a.f3 = b.f3) ∧ (b.f0 = 1 ∨ b.f0 = 3) := by
  unfold dbl tr
  rw [ha, hb, Prod.mk.injEq, Prod.mk.injEq]
set_option maxRecDepth 100000 in
set_option maxHeartbeats 8000000 in
theorem law_walk (K : Nat) (A0 : Option Addr) (c0 : Nat) (l0 : List S27) (w : World) (hr0 : Kd.C k27 w A0 l0.length l0) (hc0 : l0.length ≤ c0) (hw : ∀ e ∈ l0, wfE e) (hs : grapevinelaw21_small.f K l0 = some true) (hl : l0.length ≤ 60) :
    Calls Try.prog 3 #[.slice A0 l0.length c0] w fun e w' => e = .returned (.bool true) ∧ Below w.heap.size w w' := by
  have HR := Aside0.mk hr0
  have HS := Aside0.mk hs
  have HW := Aside0.mk (twice_some l0 hw)
  clear hr0 hs hw
  go_enter Try.func3, Try.ntmps3
  go_wp2_with (first | (go_at_call 8; go_loud (refine (grapevinelaw21_anchor.calls true _ rfl).mono ?_; rintro e w1 ⟨rfl, hb1⟩; have HB1 := Aside0.mk hb1; clear hb1)) | (go_at_call 9; go_loud (refine (grapevinelaw21_small.calls K A0 c0 l0 true _ (Kd.C_below HR.out HB1.out) hc0 HS.out).mono ?_; rintro e w2 ⟨rfl, hb2⟩; have HB2 := Aside0.mk (below_step HB1.out hb2); clear hb2)))
  go_loopw [3, 4] (fun want i wr => OutRel l0 w want i wr) (fun _ i _ => (intOf i + 1).toNat)
  case atStart => exact ⟨l0.length, _, -1, Nat.le_refl _, rfl, rfl, rfl, .inl ⟨rfl, fun i h1 h2 => by omega⟩, HB2.out⟩
  case round =>
    obtain ⟨m, v, wv, hm, hv, rfl, rfl, hD, hB⟩ := hrel
    have HD := Aside0.mk hD
    have HB := Aside0.mk hB
    clear hD hB
    rcases Nat.eq_zero_or_pos m with hm0 | hm0
    · subst hm0
      have hneg : v < 0 := by omega
      clear hv
      have HDN := Aside0.mk (HW.out.trans (congrArg some HD.out.done))
      go_wp2_with (go_at_call 10; go_loud (refine (judge_Twice.calls A0 c0 l0 wv _ (Kd.C_below HR.out HB.out) hc0 HDN.out).mono ?_; rintro e w1 ⟨rfl, hb1⟩; have HB3 := Aside0.mk (below_step HB.out hb1); clear hb1))
      go_ret
      exact ⟨by simp, HB3.out⟩
    · obtain ⟨i, rfl⟩ : ∃ i, m = i + 1 := ⟨m - 1, by omega⟩
      obtain rfl : v = (i : Int) := by omega
      clear hv hm0
      have hi : i < l0.length := by omega
      obtain ⟨ad, B4, d4, hA, g0, g1, g2, g3, g4, g5, g6⟩ := at_T27 HR.out (i : Int) (by omega) (by omega)
      obtain ⟨b, hbe⟩ : ∃ b, rd_T27 l0 (i : Int) = b := ⟨_, rfl⟩
      rw [hbe] at g0 g1 g2 g3 g4 g5
      rw [Int.toNat_natCast] at g0 g1 g2 g3 g4
      have HBE := Aside0.mk hbe
      clear g5 g6 hbe
      subst hA
      have hlen : l0.length ≤ 9223372036854775807 := by omega
      go_wp2
      obtain ⟨wo, hwo⟩ : ∃ wo, wo = wr := ⟨_, rfl⟩
      subst hwo
      go_loopw [3, 23] (fun want jv wi => InRel l0 i wv w want jv wi) (fun _ j _ => i - (intOf j).toNat)
      case atStart => exact ⟨0, wv, Nat.zero_le _, rfl, rfl, .inr ⟨rfl, fun j' h => by omega⟩, HB.out⟩
      case round =>
        obtain ⟨j, wv2, hj, rfl, rfl, hI, hBi⟩ := hrel
        have HI := Aside0.mk hI
        have HBi := Aside0.mk hBi
        clear hI hBi
        by_cases hlt : j < i
        · obtain ⟨ad2, A4, c4, hA2, h0, h1, h2, h3, h4, h5, h6⟩ := at_T27 HR.out (j : Int) (by omega) (by omega)
          obtain ⟨a, hae⟩ : ∃ a, rd_T27 l0 (j : Int) = a := ⟨_, rfl⟩
          rw [hae] at h0 h1 h2 h3 h4 h5
          rw [Int.toNat_natCast] at h0 h1 h2 h3 h4
          obtain rfl : ad = ad2 := by injection hA2
          have DI := Aside0.mk (dbl_iff hae HBE.out)
          clear h5 h6 hae hA2
          replace h0 := (HBi.out.cell (World.block_lt_of_cell? w _ h0)).trans h0
          replace h1 := (HBi.out.cell (World.block_lt_of_cell? w _ h1)).trans h1
          replace h2 := (HBi.out.cell (World.block_lt_of_cell? w _ h2)).trans h2
          replace h3 := (HBi.out.cell (World.block_lt_of_cell? w _ h3)).trans h3
          replace h4 := (HBi.out.cell (World.block_lt_of_cell? w _ h4)).trans h4
          obtain ⟨o, ho⟩ : ∃ o, o = Obj.cells #[.int .i64 a.f0, .int .i64 a.f1, .int .i64 a.f2, .int .i64 a.f3, .slice A4 a.f4.length c4] 27 := ⟨_, rfl⟩
          have HBo := Aside0.mk (below_step HBi.out (below_alloc (Below.refl _ wr) o))
          have q0 := (HBo.out.cell (World.block_lt_of_cell? w _ g0)).trans g0
          have q1 := (HBo.out.cell (World.block_lt_of_cell? w _ g1)).trans g1
          have q3 := (HBo.out.cell (World.block_lt_of_cell? w _ g3)).trans g3
          rw [ho] at HBo q0 q1 q3
          clear ho o
          have GG := Aside0.mk (And.intro g0 (And.intro g1 (And.intro g2 (And.intro g3 g4))))
          clear g0 g1 g2 g3 g4
          have p1 : 0 ≤ (i : Int) := by omega
          have p2 : (i : Int) < (l0.length : Int) := by omega
          cases k0 : (a.f0 == b.f0) with
          | false =>
            have hno : ¬ dbl l0 j i := fun h => by have := (DI.out.mp h).1.1; simp [this] at k0
            go_wp2
            go_quiet (fail)
            go_wp2
            go_roundw
            case rel => exact ⟨j + 1, wv2, by omega, by go_num, rfl, HI.out.miss hno, pw_below_drewN HBo.out nq⟩
            case measure => simp [intOf]; omega
          | true =>
            cases k1 : (a.f1 == b.f1) with
            | false =>
              have hno : ¬ dbl l0 j i := fun h => by have := (DI.out.mp h).1.2.1; simp [this] at k1
              go_wp2
              go_quiet (fail)
              go_wp2
              go_roundw
              case rel => exact ⟨j + 1, wv2, by omega, by go_num, rfl, HI.out.miss hno, pw_below_drewN HBo.out nq⟩
              case measure => simp [intOf]; omega
            | true =>
              cases k3 : (a.f3 == b.f3) with
              | false =>
                have hno : ¬ dbl l0 j i := fun h => by have := (DI.out.mp h).1.2.2; simp [this] at k3
                go_wp2
                go_quiet (fail)
                go_wp2
                go_roundw
                case rel => exact ⟨j + 1, wv2, by omega, by go_num, rfl, HI.out.miss hno, pw_below_drewN HBo.out nq⟩
                case measure => simp [intOf]; omega
              | true =>
                have e0 := beq_iff_eq.mp k0
                have E := Aside0.mk (And.intro (beq_iff_eq.mp k0) (And.intro (beq_iff_eq.mp k1) (beq_iff_eq.mp k3)))
                clear e0
                cases k5 : (a.f0 == 1) with
                | true =>
                  have hyes := Aside0.mk (DI.out.mpr ⟨E.out, .inl (by have := beq_iff_eq.mp k5; have := E.out.1; omega)⟩)
                  go_wp2
                  go_quiet (fail)
                  go_wp2
                  go_roundw
                  case rel => exact ⟨j + 1, i, by omega, by go_num, rfl, HI.out.hit hyes.out, pw_below_drewN HBo.out nq⟩
                  case measure => simp [intOf]; omega
                | false =>
                  cases k6 : (a.f0 == 3) with
                  | true =>
                    have hyes := Aside0.mk (DI.out.mpr ⟨E.out, .inr (by have := beq_iff_eq.mp k6; have := E.out.1; omega)⟩)
                    go_wp2
                    go_quiet (fail)
                    go_wp2
                    go_roundw
                    case rel => exact ⟨j + 1, i, by omega, by go_num, rfl, HI.out.hit hyes.out, pw_below_drewN HBo.out nq⟩
                    case measure => simp [intOf]; omega
                  | false =>
                    have hno : ¬ dbl l0 j i := fun h => by
                      have h1 := (DI.out.mp h).2
                      have h2 := E.out.1
                      have h3 : ¬ a.f0 = 1 := fun x => by simp [x] at k5
                      have h4 : ¬ a.f0 = 3 := fun x => by simp [x] at k6
                      omega
                    go_wp2
                    go_quiet (fail)
                    go_wp2
                    go_roundw
                    case rel => exact ⟨j + 1, wv2, by omega, by go_num, rfl, HI.out.miss hno, pw_below_drewN HBo.out nq⟩
                    case measure => simp [intOf]; omega
        · obtain rfl : j = i := by omega
          have HDS := Aside0.mk (HD.out.step hi HI.out)
          go_wp2
          go_roundw
          case rel => exact ⟨j, _, wv2, by omega, rfl, rfl, rfl, HDS.out, HBi.out⟩
          case measure => simp [intOf]
set_option maxRecDepth 100000 in
theorem law_false (K : Nat) (A0 : Option Addr) (c0 : Nat) (l0 : List S27) (w : World) (hr0 : Kd.C k27 w A0 l0.length l0) (hc0 : l0.length ≤ c0) (hs : grapevinelaw21_small.f K l0 = some false) :
    Calls Try.prog 3 #[.slice A0 l0.length c0] w fun e w' => e = .returned (.bool true) ∧ Below w.heap.size w w' := by
  have HR := Aside0.mk hr0
  have HS := Aside0.mk hs
  clear hr0 hs
  go_enter Try.func3, Try.ntmps3
  go_wp2_with (first | (go_at_call 8; go_loud (refine (grapevinelaw21_anchor.calls true _ rfl).mono ?_; rintro e w1 ⟨rfl, hb1⟩; have HB1 := Aside0.mk hb1; clear hb1)) | (go_at_call 9; go_loud (refine (grapevinelaw21_small.calls K A0 c0 l0 false _ (Kd.C_below HR.out HB1.out) hc0 HS.out).mono ?_; rintro e w2 ⟨rfl, hb2⟩; have HB2 := Aside0.mk (below_step HB1.out hb2); clear hb2)))
  go_ret
  exact ⟨rfl, HB2.out⟩
theorem law_calls (A0 : Option Addr) (c0 : Nat) (l0 : List S27) (w : World) (hr0 : Kd.C k27 w A0 l0.length l0) (hc0 : l0.length ≤ c0) (hw : ∀ e ∈ l0, wfE e) :
    Calls Try.prog 3 #[.slice A0 l0.length c0] w fun e w' => e = .returned (.bool true) ∧ Below w.heap.size w w' := by
  obtain ⟨b, ⟨K, hK⟩, h2⟩ := small_ends l0 hr0.2.1
  have hs := hK K (Nat.le_refl _)
  cases b with
  | false => exact law_false K A0 c0 l0 w hr0 hc0 hs
  | true => exact law_walk K A0 c0 l0 w hr0 hc0 hw hs (h2 rfl).1

end Go.Proofs.Ytcpiccgnaecdkaa.JudgeTwicePure
