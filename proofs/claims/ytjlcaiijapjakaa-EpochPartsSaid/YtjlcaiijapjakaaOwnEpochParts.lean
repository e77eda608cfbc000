/- The plain law of EpochParts: masters with one Config that tell one another theirs, again and again, the one that yields bumping, come to unlike ones within a few rounds; the one of the greatest id never bumps; for every number of masters and every current epoch. -/
import Derived.Test.YtjlcaiijapjakaaQEpochPartsc
namespace Go.Proofs.Ytjlcaiijapjakaa.EpochPartsPure
open Go.RowKit Go.Proofs.Ytjlcaiijapjakaa.QEpochParts Go.Proofs.YtjlcaiijapjakaaW.PrintWords Go.Proofs.YtjlcaiijapjakaaW.PrintLast Go.Proofs.YtjlcaiijapjakaaW.PrintMore
set_option linter.unusedVariables false
set_option linter.unusedSimpArgs false

/-- Epochs are right. -/
def R (a b c : Int) : Prop := 0 ≤ b ∧ 0 ≤ c ∧ b ≤ a ∧ c ≤ a ∧ a ≤ 281474976710656
/-- A number is one of an epoch. -/
def Q (n : Int) : Prop := 0 ≤ n ∧ n ≤ 281474976710656
theorem right_pos {a b c : Int} (h : R a b c) : epoch_Epochs_Right.f a b c = some true := by
  unfold R at h; unfold epoch_Epochs_Right.f mn mx; grind
theorem right_neg {a b c : Int} (h : ¬ R a b c) : epoch_Epochs_Right.f a b c = some false := by
  unfold R at h; unfold epoch_Epochs_Right.f mn mx; grind
theorem asked_pos {a b c n : Int} (h : R a b c) (hn : Q n) : epoch_Epochs_asked.f a b c n = some 0 := by
  unfold epoch_Epochs_asked.f; rw [right_pos h]; unfold Q at hn; grind
theorem asked_neg {a b c n : Int} (h : ¬ (R a b c ∧ Q n)) : epoch_Epochs_asked.f a b c n = some 10 := by
  unfold epoch_Epochs_asked.f
  by_cases hr : R a b c
  · rw [right_pos hr]; have hn : ¬ Q n := fun x => h ⟨hr, x⟩; unfold Q at hn; grind
  · rw [right_neg hr]; grind
theorem anchor_true : grapevinelaw06_anchor.f = some true := by decide +kernel

theorem see_pos {a b c n : Int} (h : R a b c) (hn : Q n) : epoch_Epochs_See.f a b c n = some (mx a n, b, c, 0) := by
  unfold epoch_Epochs_See.f; rw [asked_pos h hn]; rfl
theorem see_neg {a b c n : Int} (h : ¬ (R a b c ∧ Q n)) : epoch_Epochs_See.f a b c n = some (0, 0, 0, 10) := by
  unfold epoch_Epochs_See.f; rw [asked_neg h]; rfl

theorem stand_neg {a b c : Int} (h : ¬ R a b c) : epoch_Epochs_Stand.f a b c = some (0, 0, 0, 10) := by
  unfold epoch_Epochs_Stand.f; rw [right_neg h]; rfl
theorem stand_big {a b c : Int} (h : R a b c) (ha : a = 281474976710656) : epoch_Epochs_Stand.f a b c = some (0, 0, 0, 12) := by
  unfold epoch_Epochs_Stand.f; rw [right_pos h]; grind
theorem wrap_succ {a b c : Int} (h : R a b c) : wrap64 (a + 1) = a + 1 := by
  unfold R at h; unfold wrap64; omega
theorem stand_pos {a b c : Int} (h : R a b c) (ha : ¬ a = 281474976710656) : epoch_Epochs_Stand.f a b c = some (a + 1, b, c, 0) := by
  unfold epoch_Epochs_Stand.f; rw [right_pos h, wrap_succ h]; grind

theorem bump_neg {a b c : Int} (h : ¬ R a b c) : epoch_Epochs_Bump.f a b c = some (0, 0, 0, 10) := by
  unfold epoch_Epochs_Bump.f; rw [stand_neg h]; rfl
theorem bump_big {a b c : Int} (h : R a b c) (ha : a = 281474976710656) : epoch_Epochs_Bump.f a b c = some (0, 0, 0, 12) := by
  unfold epoch_Epochs_Bump.f; rw [stand_big h ha]; rfl
theorem bump_pos {a b c : Int} (h : R a b c) (ha : ¬ a = 281474976710656) : epoch_Epochs_Bump.f a b c = some (a + 1, b, a + 1, 0) := by
  unfold epoch_Epochs_Bump.f; rw [stand_pos h ha]; rfl

theorem wrap_nat (j n : Nat) (h : j < n) (hn : n ≤ 1000000) : wrap64 ((j : Int) + 1) = ((j + 1 : Nat) : Int) := by unfold wrap64; omega
/-! The masters as pairs of numbers above the common epoch: Current, Config. -/
def at_ (L : List (Nat × Nat)) (i : Nat) : Nat × Nat := L.getD i (0, 0)
def st (i : Nat) (k : Nat) (L : List (Nat × Nat)) : Option (List (Nat × Nat)) :=
  if i < L.length ∧ k < L.length ∧ (at_ L i).2 ≤ (at_ L i).1 ∧ (at_ L i).1 < 100000 ∧ (at_ L k).1 < 100000 ∧ (at_ L k).2 < 100000 then
    (if i < k ∧ (at_ L i).2 = (at_ L k).2 then some (L.set i (max (at_ L i).1 (at_ L k).1 + 1, max (at_ L i).1 (at_ L k).1 + 1))
     else some (L.set i (max (at_ L i).1 (at_ L k).1, (at_ L i).2)))
  else none
def rows (f : Nat → List (Nat × Nat) → Option (List (Nat × Nat))) : Nat → Nat → List (Nat × Nat) → Option (List (Nat × Nat))
  | 0, _, s => some s
  | d + 1, k, s => (f k s).bind (rows f d (k + 1))
def inner (n i : Nat) (L : List (Nat × Nat)) : Option (List (Nat × Nat)) := rows (st i) n 0 L
def mid (n : Nat) (L : List (Nat × Nat)) : Option (List (Nat × Nat)) := rows (inner n) n 0 L
def outer (n : Nat) (L : List (Nat × Nat)) : Option (List (Nat × Nat)) := rows (fun _ => mid n) (n * n) 0 L
def parted : List (Nat × Nat) → Bool
  | [] => true
  | p :: l => l.all (fun q => q.2 != p.2) && parted l
def tame (L : List (Nat × Nat)) : Bool := L.all fun p => decide (p.2 ≤ p.1) && decide (p.1 < 1000)
theorem first_round : ∀ n : Nat, 1 ≤ n → n ≤ 8 → ∃ L, mid n (List.replicate n (0, 0)) = some L ∧ parted L = true ∧ tame L = true ∧ (at_ L (n - 1)).2 = 0 ∧ L.length = n
  | 1, _, _ => ⟨[(0, 0)], by decide +kernel, by decide, by decide, by decide, by decide⟩
  | 2, _, _ => ⟨[(1, 1), (1, 0)], by decide +kernel, by decide, by decide, by decide, by decide⟩
  | 3, _, _ => ⟨[(1, 1), (2, 2), (2, 0)], by decide +kernel, by decide, by decide, by decide, by decide⟩
  | 4, _, _ => ⟨[(1, 1), (2, 2), (3, 3), (3, 0)], by decide +kernel, by decide, by decide, by decide, by decide⟩
  | 5, _, _ => ⟨[(1, 1), (2, 2), (3, 3), (4, 4), (4, 0)], by decide +kernel, by decide, by decide, by decide, by decide⟩
  | 6, _, _ => ⟨[(1, 1), (2, 2), (3, 3), (4, 4), (5, 5), (5, 0)], by decide +kernel, by decide, by decide, by decide, by decide⟩
  | 7, _, _ => ⟨[(1, 1), (2, 2), (3, 3), (4, 4), (5, 5), (6, 6), (6, 0)], by decide +kernel, by decide, by decide, by decide, by decide⟩
  | 8, _, _ => ⟨[(1, 1), (2, 2), (3, 3), (4, 4), (5, 5), (6, 6), (7, 7), (7, 0)], by decide +kernel, by decide, by decide, by decide, by decide⟩
  | 0, h, _ => absurd h (by decide)
  | n + 9, _, h => absurd h (by omega)
def E (u : Int) (L : List (Nat × Nat)) : List S23 := L.map fun p => ⟨u + (p.1 : Int), 0, u + (p.2 : Int)⟩
theorem E_length (u : Int) (L : List (Nat × Nat)) : (E u L).length = L.length := by simp [E]
theorem E_at (u : Int) (L : List (Nat × Nat)) (i : Nat) (h : i < L.length) : rd_T23 (E u L) (i : Int) = ⟨u + ((at_ L i).1 : Int), 0, u + ((at_ L i).2 : Int)⟩ := by
  unfold rd_T23 at_
  rw [List.getD_eq_getElem?_getD, List.getD_eq_getElem?_getD, Int.toNat_natCast]
  simp [E, List.getElem?_eq_getElem h]
theorem E_set (u : Int) (L : List (Nat × Nat)) (i : Nat) (x c : Nat) : (E u L).set i ⟨u + (x : Int), 0, u + (c : Int)⟩ = E u (L.set i (x, c)) := by
  simp [E, List.map_set]
theorem st_length {i k : Nat} {L L' : List (Nat × Nat)} (h : st i k L = some L') : L'.length = L.length := by
  unfold st at h
  split at h
  · split at h
    · rw [← Option.some.inj h]; simp
    · rw [← Option.some.inj h]; simp
  · cases h
theorem rows_length {f : Nat → List (Nat × Nat) → Option (List (Nat × Nat))} (hf : ∀ k L L', f k L = some L' → L'.length = L.length) (d : Nat) : ∀ (k : Nat) (L L' : List (Nat × Nat)), rows f d k L = some L' → L'.length = L.length := by
  induction d with
  | zero => intro k L L' h; rw [← Option.some.inj h]
  | succ d ih =>
    intro k L L' h
    obtain ⟨M, h1, h2⟩ := Option.bind_eq_some_iff.mp (show (f k L).bind (rows f d (k + 1)) = some L' from h)
    rw [ih _ _ _ h2, hf _ _ _ h1]
theorem inner_length {n i : Nat} {L L' : List (Nat × Nat)} (h : inner n i L = some L') : L'.length = L.length := rows_length (fun _ _ _ => st_length) _ _ _ _ h
theorem mid_length {n : Nat} {L L' : List (Nat × Nat)} (h : mid n L = some L') : L'.length = L.length := rows_length (fun _ _ _ => inner_length) _ _ _ _ h
/-- One round of the innermost loop. -/
theorem step3 (a0 u : Int) (hu0 : 0 ≤ u) (hu1 : u ≤ 1099511627776) (n i k : Nat) (hn : n ≤ 8) (L L' : List (Nat × Nat)) (hL : L.length = n) (hk : k < n) (h : st i k L = some L') (x47 x48 : Int)
    (hnext : Ev (fun K => grapevinelaw06_EpochParts.l3 K a0 u (E u L') i x47 x48 n i n ((k + 1 : Nat) : Int)) true) :
    Ev (fun K => grapevinelaw06_EpochParts.l3 K a0 u (E u L) i x47 x48 n i n k) true := by
  unfold st at h
  split at h
  rotate_left
  · cases h
  rename_i hc
  obtain ⟨hi, hk', h1, h2, h3, h4⟩ := hc
  obtain ⟨p, hp⟩ : ∃ p, at_ L i = p := ⟨_, rfl⟩
  obtain ⟨q, hq⟩ : ∃ q, at_ L k = q := ⟨_, rfl⟩
  rw [hp] at h h1 h2; rw [hq] at h h3 h4
  obtain ⟨x, hx⟩ : ∃ x, max p.1 q.1 = x := ⟨_, rfl⟩
  rw [hx] at h
  have k1 : (k : Int) < (n : Int) := Int.ofNat_lt.mpr hk
  have k2 : (0 : Int) ≤ (i : Int) := Int.natCast_nonneg i
  have k3 : (0 : Int) ≤ (k : Int) := Int.natCast_nonneg k
  have w1 : wrap64 ((i : Int) + 1) = ((i + 1 : Nat) : Int) := wrap_nat i n (hL ▸ hi) (by omega)
  have w2 : wrap64 ((k : Int) + 1) = ((k + 1 : Nat) : Int) := wrap_nat k n hk (by omega)
  have l1 : (i : Int) < ((E u L).length : Int) := by rw [E_length]; exact Int.ofNat_lt.mpr hi
  have l2 : (k : Int) < ((E u L).length : Int) := by rw [E_length]; exact Int.ofNat_lt.mpr hk'
  have x1 : p.1 ≤ x := hx ▸ Nat.le_max_left _ _
  have x2 : x < 100000 := by rw [← hx]; exact Nat.max_lt.mpr ⟨h2, h3⟩
  have hR : R (u + (p.1 : Int)) 0 (u + (p.2 : Int)) := by clear h hx; unfold R; omega
  have hQ : Q (u + (q.1 : Int)) := by clear h hx hR; unfold Q; omega
  have hm : mx (u + (p.1 : Int)) (u + (q.1 : Int)) = u + (x : Int) := by
    clear h hR hQ
    unfold mx
    rcases Nat.lt_or_ge p.1 q.1 with g | g
    · rw [if_pos (by omega), ← hx, Nat.max_eq_right (by omega)]
    · rw [if_neg (by omega), ← hx, Nat.max_eq_left g]
  clear hx
  have hR2 : R (u + (x : Int)) 0 (u + (p.2 : Int)) := by clear h hR hQ hm; unfold R; omega
  have hb : ¬ u + (x : Int) = 281474976710656 := by clear h hR hQ hm hR2; omega
  have r1 := E_at u L i hi
  have r2 := E_at u L k hk'
  rw [hp] at r1; rw [hq] at r2
  obtain ⟨M, hM⟩ : ∃ M, L.set i (x, p.2) = M := ⟨_, rfl⟩
  have hMl : M.length = L.length := by rw [← hM, List.length_set]
  have aM : at_ M i = (x, p.2) := by rw [← hM]; unfold at_; rw [List.getD_eq_getElem?_getD, List.getElem?_set_self hi]; rfl
  have s1 : rd_T23 (E u M) (i : Int) = ⟨u + (x : Int), 0, u + (p.2 : Int)⟩ := by rw [E_at u M i (hMl ▸ hi), aM]
  have s2 : (rd_T23 (E u M) (k : Int)).f2 = u + (q.2 : Int) := by
    rw [E_at u M k (hMl ▸ hk')]
    by_cases e : i = k
    · subst e
      rw [aM]
      have : p = q := hp.symm.trans hq
      rw [this]
    · have : at_ M k = q := by rw [← hM]; unfold at_; rw [List.getD_eq_getElem?_getD, List.getElem?_set_ne e]; exact hq
      rw [this]
  have set1 : (E u L).set (i : Int).toNat ⟨u + (x : Int), 0, u + (p.2 : Int)⟩ = E u M := by rw [Int.toNat_natCast, E_set, hM]
  refine Ev.step (fun K => ?_) hnext
  simp only [grapevinelaw06_EpochParts.l3]
  rw [if_pos k1, if_pos k2, if_pos l1, if_pos k3, if_pos l2, r1, r2, see_pos hR hQ, hm, w1, w2]
  simp only [Option.bind_some, if_true]
  rw [set1, s1, s2]
  by_cases hy : i < k ∧ p.2 = q.2
  · rw [if_pos hy] at h
    have hL' := Option.some.inj h
    have y1 : epoch_Yields.f ((i + 1 : Nat) : Int) ((k + 1 : Nat) : Int) (u + (p.2 : Int)) (u + (q.2 : Int)) = some true := by
      unfold epoch_Yields.f; rw [if_pos (by rw [hy.2]), decide_eq_true (Int.ofNat_lt.mpr (Nat.succ_lt_succ hy.1))]
    have e3 : u + (x : Int) + 1 = u + ((x + 1 : Nat) : Int) := by rw [Int.natCast_add]; exact Int.add_assoc _ _ _
    rw [y1]
    simp only [Option.bind_some, if_true]
    rw [bump_pos hR2 hb, e3]
    simp only [Option.bind_some, if_true]
    rw [Int.toNat_natCast, E_set, ← hL', ← hM, List.set_set]
  · rw [if_neg hy] at h
    have hL' := Option.some.inj h
    have y1 : epoch_Yields.f ((i + 1 : Nat) : Int) ((k + 1 : Nat) : Int) (u + (p.2 : Int)) (u + (q.2 : Int)) = some false := by
      unfold epoch_Yields.f
      by_cases e : u + (p.2 : Int) = u + (q.2 : Int)
      · have e4 : p.2 = q.2 := by clear h hR hQ hm hR2 hL'; omega
        have e5 : ¬ ((i + 1 : Nat) : Int) < ((k + 1 : Nat) : Int) := fun g => hy ⟨Nat.lt_of_succ_lt_succ (Int.ofNat_lt.mp g), e4⟩
        rw [if_pos e, decide_eq_false e5]
      · rw [if_neg e]
    rw [y1]
    simp only [Option.bind_some]
    rw [← hL', hM]
    simp
theorem loop3 (a0 u : Int) (hu0 : 0 ≤ u) (hu1 : u ≤ 1099511627776) (n i : Nat) (hn : n ≤ 8) (x47 x48 : Int) (hi : i < n) (d : Nat) : ∀ (k : Nat) (L L' : List (Nat × Nat)), k + d = n → L.length = n → rows (st i) d k L = some L' →
    Ev (fun K => grapevinelaw06_EpochParts.l2 K a0 u (E u L') x47 x48 n ((i + 1 : Nat) : Int)) true → Ev (fun K => grapevinelaw06_EpochParts.l3 K a0 u (E u L) i x47 x48 n i n k) true := by
  have w1 : wrap64 ((i : Int) + 1) = ((i + 1 : Nat) : Int) := wrap_nat i n (by omega) (by omega)
  induction d with
  | zero =>
    intro k L L' hk hL h hnext
    obtain rfl := Option.some.inj h
    refine Ev.step (fun K => ?_) hnext
    simp only [grapevinelaw06_EpochParts.l3]
    rw [if_neg (by omega), w1]
  | succ d ih =>
    intro k L L' hk hL h hnext
    obtain ⟨M, h1, h2⟩ := Option.bind_eq_some_iff.mp (show (st i k L).bind (rows (st i) d (k + 1)) = some L' from h)
    exact step3 a0 u hu0 hu1 n i k hn L M hL (by omega) h1 x47 x48 (ih (k + 1) M L' (by omega) ((st_length h1).trans hL) h2 hnext)
theorem loop2 (a0 u : Int) (hu0 : 0 ≤ u) (hu1 : u ≤ 1099511627776) (n : Nat) (hn : n ≤ 8) (x47 : Int) (t : Nat) (ht : t < 64) (d : Nat) : ∀ (i : Nat) (L L' : List (Nat × Nat)), i + d = n → L.length = n → rows (inner n) d i L = some L' →
    Ev (fun K => grapevinelaw06_EpochParts.l1 K a0 u (E u L') x47 ((t + 1 : Nat) : Int)) true → Ev (fun K => grapevinelaw06_EpochParts.l2 K a0 u (E u L) x47 t n i) true := by
  have w1 : wrap64 ((t : Int) + 1) = ((t + 1 : Nat) : Int) := wrap_nat t 64 ht (by omega)
  induction d with
  | zero =>
    intro i L L' hi hL h hnext
    obtain rfl := Option.some.inj h
    refine Ev.step (fun K => ?_) hnext
    simp only [grapevinelaw06_EpochParts.l2]
    rw [if_neg (by omega), w1]
  | succ d ih =>
    intro i L L' hi hL h hnext
    obtain ⟨M, h1, h2⟩ := Option.bind_eq_some_iff.mp (show (inner n i L).bind (rows (inner n) d (i + 1)) = some L' from h)
    refine Ev.step (fun K => ?_) (loop3 a0 u hu0 hu1 n i hn x47 t (by omega) n 0 L M (by omega) hL h1 (ih (i + 1) M L' (by omega) ((inner_length h1).trans hL) h2 hnext))
    simp only [grapevinelaw06_EpochParts.l2]
    rw [if_pos (by omega), E_length, hL]
    rfl
theorem loop1 (a0 u : Int) (hu0 : 0 ≤ u) (hu1 : u ≤ 1099511627776) (n m : Nat) (hn : n ≤ 8) (hm : m ≤ 64) (d : Nat) : ∀ (t : Nat) (L L' : List (Nat × Nat)), t + d = m → L.length = n → rows (fun _ => mid n) d t L = some L' →
    Ev (fun K => grapevinelaw06_EpochParts.l4 K a0 u (E u L') n 0) true → Ev (fun K => grapevinelaw06_EpochParts.l1 K a0 u (E u L) m t) true := by
  induction d with
  | zero =>
    intro t L L' ht hL h hnext
    obtain rfl := Option.some.inj h
    refine Ev.step (fun K => ?_) hnext
    simp only [grapevinelaw06_EpochParts.l1]
    rw [if_neg (by omega), E_length, hL]
  | succ d ih =>
    intro t L L' ht hL h hnext
    obtain ⟨M, h1, h2⟩ := Option.bind_eq_some_iff.mp (show (mid n L).bind (rows (fun _ => mid n) d (t + 1)) = some L' from h)
    refine Ev.step (fun K => ?_) (loop2 a0 u hu0 hu1 n hn m t (by omega) n 0 L M (by omega) hL h1 (ih (t + 1) M L' (by omega) ((mid_length h1).trans hL) h2 hnext))
    simp only [grapevinelaw06_EpochParts.l1]
    rw [if_pos (by omega), E_length, hL]
    rfl
/-! The end: all Configs are unlike. -/
theorem parted_at {L : List (Nat × Nat)} (h : parted L = true) : ∀ i k, k < i → i < L.length → (at_ L i).2 ≠ (at_ L k).2 := by
  induction L with
  | nil => intro i k _ hi; simp at hi
  | cons p l ih =>
    simp only [parted, Bool.and_eq_true, List.all_eq_true, bne_iff_ne, ne_eq] at h
    intro i k hk hi
    obtain ⟨i, rfl⟩ : ∃ j, i = j + 1 := ⟨i - 1, by omega⟩
    cases k with
    | zero =>
      have hm : i < l.length := by simpa using hi
      have e : at_ (p :: l) (i + 1) = l[i] := by unfold at_; simp [List.getD_eq_getElem?_getD, List.getElem?_eq_getElem hm]
      rw [e]
      exact h.1 _ (List.getElem_mem hm)
    | succ k => exact ih h.2 i k (by omega) (by simpa using hi)
/-- Once the Configs are unlike nobody yields any more. -/
def Calm (n : Nat) (cs : List Nat) (L : List (Nat × Nat)) : Prop := L.length = n ∧ parted L = true ∧ tame L = true ∧ L.map (·.2) = cs
theorem parted_map : ∀ L M : List (Nat × Nat), L.map (·.2) = M.map (·.2) → parted L = parted M
  | [], [], _ => rfl
  | [], q :: M, h => by simp at h
  | p :: L, [], h => by simp at h
  | p :: L, q :: M, h => by
    simp only [List.map_cons, List.cons.injEq] at h
    have ha : (L.all fun x => x.2 != p.2) = (M.all fun x => x.2 != q.2) := by
      have e1 : (L.all fun x => x.2 != p.2) = (L.map (·.2)).all (fun x => x != p.2) := by rw [List.all_map]; rfl
      have e2 : (M.all fun x => x.2 != q.2) = (M.map (·.2)).all (fun x => x != q.2) := by rw [List.all_map]; rfl
      rw [e1, e2, h.1, h.2]
    simp only [parted]
    rw [ha, parted_map L M h.2]
theorem at_mem (L : List (Nat × Nat)) (i : Nat) (h : i < L.length) : at_ L i ∈ L := by
  unfold at_
  rw [List.getD_eq_getElem?_getD, List.getElem?_eq_getElem h]
  exact List.getElem_mem h
theorem tame_at {L : List (Nat × Nat)} (h : tame L = true) (i : Nat) (hi : i < L.length) : (at_ L i).2 ≤ (at_ L i).1 ∧ (at_ L i).1 < 1000 := by
  have := List.all_eq_true.1 h _ (at_mem L i hi)
  simpa using this
theorem st_calm {n i k : Nat} {cs : List Nat} {L : List (Nat × Nat)} (hi : i < n) (hk : k < n) (h : Calm n cs L) : ∃ L', st i k L = some L' ∧ Calm n cs L' := by
  obtain ⟨hl, hp, ht, hc⟩ := h
  have t1 := tame_at ht i (by omega)
  have t2 := tame_at ht k (by omega)
  have hne : ¬ (i < k ∧ (at_ L i).2 = (at_ L k).2) := fun g => parted_at hp k i g.1 (by omega) g.2.symm
  refine ⟨L.set i (max (at_ L i).1 (at_ L k).1, (at_ L i).2), ?_, ?_⟩
  · unfold st
    rw [if_pos ⟨by omega, by omega, t1.1, by omega, by omega, by omega⟩, if_neg hne]
  · have hm : (L.set i (max (at_ L i).1 (at_ L k).1, (at_ L i).2)).map (·.2) = L.map (·.2) := by
      rw [List.map_set]
      apply List.ext_getElem?
      intro m
      rw [List.getElem?_set]
      split
      · rename_i e
        subst e
        have hil : i < L.length := by omega
        rw [if_pos (by simpa using hil)]
        simp [at_, List.getD_eq_getElem?_getD, List.getElem?_eq_getElem hil]
      · rfl
    refine ⟨by simpa using hl, (parted_map _ _ hm).trans hp, ?_, hm.trans hc⟩
    refine List.all_eq_true.2 fun x hx => ?_
    rcases List.mem_or_eq_of_mem_set hx with hx | hx
    · exact List.all_eq_true.1 ht x hx
    · rw [hx]
      simp
      omega
theorem rows_calm {n : Nat} {cs : List Nat} {f : Nat → List (Nat × Nat) → Option (List (Nat × Nat))} (m : Nat) (hf : ∀ k L, k < m → Calm n cs L → ∃ L', f k L = some L' ∧ Calm n cs L') (d : Nat) : ∀ (k : Nat) (L : List (Nat × Nat)), k + d ≤ m → Calm n cs L → ∃ L', rows f d k L = some L' ∧ Calm n cs L' := by
  induction d with
  | zero => exact fun k L _ h => ⟨L, rfl, h⟩
  | succ d ih =>
    intro k L hk h
    obtain ⟨M, h1, h2⟩ := hf k L (by omega) h
    obtain ⟨N, h3, h4⟩ := ih (k + 1) M (by omega) h2
    exact ⟨N, by show (f k L).bind (rows f d (k + 1)) = some N; rw [h1]; exact h3, h4⟩
theorem mid_calm {n : Nat} {cs : List Nat} {L : List (Nat × Nat)} (h : Calm n cs L) : ∃ L', mid n L = some L' ∧ Calm n cs L' :=
  rows_calm n (fun i M hi hM => rows_calm n (fun k M' hk hM' => st_calm hi hk hM') n 0 M (by omega) hM) n 0 L (by omega) h
theorem outer_ends {n : Nat} (h1 : 1 ≤ n) (hn : n ≤ 8) : ∃ L, outer n (List.replicate n (0, 0)) = some L ∧ L.length = n ∧ parted L = true ∧ (at_ L (n - 1)).2 = 0 := by
  obtain ⟨L, hL, hp, ht, h0, hl⟩ := first_round n h1 hn
  obtain ⟨m, hm⟩ : ∃ m, n * n = m + 1 := ⟨n * n - 1, by have : 1 * 1 ≤ n * n := Nat.mul_le_mul h1 h1; omega⟩
  obtain ⟨N, h3, h4, h5, h6, h7⟩ := rows_calm (f := fun _ => mid n) (m + 1) (fun k M _ hM => mid_calm hM) m 1 L (by omega) (⟨hl, hp, ht, rfl⟩ : Calm n (L.map (·.2)) L)
  refine ⟨N, ?_, h4, h5, ?_⟩
  · unfold outer
    rw [hm]
    show (mid n (List.replicate n (0, 0))).bind (rows (fun _ => mid n) m 1) = some N
    rw [hL]
    exact h3
  · have e1 : (at_ N (n - 1)).2 = (N.map (·.2)).getD (n - 1) 0 := by
      unfold at_
      rw [List.getD_eq_getElem?_getD, List.getD_eq_getElem?_getD, List.getElem?_map, List.getElem?_eq_getElem (show n - 1 < N.length by omega)]
      rfl
    have e2 : (at_ L (n - 1)).2 = (L.map (·.2)).getD (n - 1) 0 := by
      unfold at_
      rw [List.getD_eq_getElem?_getD, List.getD_eq_getElem?_getD, List.getElem?_map, List.getElem?_eq_getElem (show n - 1 < L.length by omega)]
      rfl
    rw [e1, h7, ← e2, h0]
theorem loop5 (a0 u : Int) (n : Nat) (hn : n ≤ 8) (L : List (Nat × Nat)) (hL : L.length = n) (hp : parted L = true) (i : Nat) (hi : i < n)
    (hnext : Ev (fun K => grapevinelaw06_EpochParts.l4 K a0 u (E u L) n ((i + 1 : Nat) : Int)) true) (d : Nat) : ∀ k : Nat, k + d = i → Ev (fun K => grapevinelaw06_EpochParts.l5 K a0 u (E u L) i n i i k) true := by
  have w1 : wrap64 ((i : Int) + 1) = ((i + 1 : Nat) : Int) := wrap_nat i n (by omega) (by omega)
  induction d with
  | zero =>
    intro k hk
    refine Ev.step (fun K => ?_) hnext
    simp only [grapevinelaw06_EpochParts.l5]
    rw [if_neg (by omega), w1]
  | succ d ih =>
    intro k hk
    have w2 : wrap64 ((k : Int) + 1) = ((k + 1 : Nat) : Int) := wrap_nat k n (by omega) (by omega)
    have hne := parted_at hp i k (by omega) (by omega)
    refine Ev.step (fun K => ?_) (ih (k + 1) (by omega))
    simp only [grapevinelaw06_EpochParts.l5]
    rw [if_pos (by omega), if_pos (by omega), if_pos (by rw [E_length]; omega), if_pos (by omega), if_pos (by rw [E_length]; omega), E_at u L i (by omega), E_at u L k (by omega), if_neg (by simp only; omega), w2]
theorem loop4 (u : Int) (n : Nat) (h1 : 1 ≤ n) (hn : n ≤ 8) (L : List (Nat × Nat)) (hL : L.length = n) (hp : parted L = true) (h0 : (at_ L (n - 1)).2 = 0) (d : Nat) : ∀ i : Nat, i + d = n →
    Ev (fun K => grapevinelaw06_EpochParts.l4 K n u (E u L) n i) true := by
  induction d with
  | zero =>
    intro i hi
    have w : wrap64 ((n : Int) - 1) = ((n - 1 : Nat) : Int) := by unfold wrap64; omega
    refine Ev.step (f := fun _ => some true) (fun K => ?_) (Ev.now true)
    simp only [grapevinelaw06_EpochParts.l4]
    rw [if_neg (by omega), w, if_pos (by omega), if_pos (by rw [E_length]; omega), E_at u L (n - 1) (by omega), h0]
    simp
  | succ d ih =>
    intro i hi
    refine Ev.step (fun K => ?_) (loop5 n u n hn L hL hp i (by omega) (ih (i + 1) (by omega)) i 0 (by omega))
    simp only [grapevinelaw06_EpochParts.l4]
    rw [if_pos (by omega)]
    rfl
/-! The beginning: each has the common epoch. -/
def filled (u : Int) (n j : Nat) : List S23 := (E u (List.replicate n (0, 0))).take j ++ (List.replicate n z23).drop j
theorem filled_length (u : Int) (n j : Nat) (h : j ≤ n) : (filled u n j).length = n := by simp [filled, E]; omega
theorem filled_set (u : Int) (n j : Nat) (h : j < n) : (filled u n j).set j ⟨u, 0, u⟩ = filled u n (j + 1) := by
  apply List.ext_getElem?
  intro m
  unfold filled E
  simp only [List.getElem?_set, List.getElem?_append, List.getElem?_take, List.getElem?_drop, List.length_append, List.length_take, List.length_map, List.length_replicate, List.length_drop, List.getElem?_map, List.getElem?_replicate]
  grind
theorem loop0 (u : Int) (n m : Nat) (hn : n ≤ 8) (hm : wrap64 ((n : Int) * n) = m) (hnext : Ev (fun K => grapevinelaw06_EpochParts.l1 K n u (filled u n n) m 0) true) (d : Nat) : ∀ j : Nat, j + d = n →
    Ev (fun K => grapevinelaw06_EpochParts.l0 K n u (filled u n j) n j) true := by
  induction d with
  | zero =>
    intro j hj
    obtain rfl : j = n := by omega
    refine Ev.step (fun K => ?_) hnext
    simp only [grapevinelaw06_EpochParts.l0]
    rw [if_neg (by omega), hm]
  | succ d ih =>
    intro j hj
    have w1 : wrap64 ((j : Int) + 1) = ((j + 1 : Nat) : Int) := wrap_nat j n (by omega) (by omega)
    refine Ev.step (fun K => ?_) (ih (j + 1) (by omega))
    simp only [grapevinelaw06_EpochParts.l0]
    rw [if_pos (by omega), if_pos (by omega), if_pos (by rw [filled_length u n j (by omega)]; omega), w1, Int.toNat_natCast, filled_set u n j (by omega)]
theorem works (n : Nat) (u : Int) (h1 : 1 ≤ n) (hn : n ≤ 8) (hu0 : 0 ≤ u) (hu1 : u ≤ 1099511627776) : Ev (fun K => grapevinelaw06_EpochParts.j0 K n u false) true := by
  obtain ⟨L, hL, hl, hp, h0⟩ := outer_ends h1 hn
  have hm : wrap64 ((n : Int) * n) = ((n * n : Nat) : Int) := by
    have h2 : n * n ≤ 8 * 8 := Nat.mul_le_mul hn hn
    rw [← Int.natCast_mul]
    unfold wrap64
    omega
  have hmm : n * n ≤ 64 := Nat.mul_le_mul hn hn
  have z0 : filled u n 0 = List.replicate n z23 := by simp [filled]
  have zn : filled u n n = E u (List.replicate n (0, 0)) := by simp [filled, E]
  have big : Ev (fun K => grapevinelaw06_EpochParts.l1 K n u (filled u n n) ((n * n : Nat) : Int) 0) true := by
    rw [zn]
    exact loop1 n u hu0 hu1 n (n * n) hn hmm (n * n) 0 _ L (by omega) (by simp) hL (loop4 u n h1 hn L hl hp h0 n 0 (by omega))
  refine Ev.step (fun K => ?_) (loop0 u n (n * n) hn hm big n 0 (by omega))
  simp only [grapevinelaw06_EpochParts.j0]
  rw [if_neg (by decide), if_pos (by omega), if_pos (by omega), z0]
  simp
theorem law (a0 a1 : Int) : ∃ k, grapevinelaw06_EpochParts.f k a0 a1 = some true := by
  apply Ev.rounds
  have out : Ev (fun K => grapevinelaw06_EpochParts.j0 K a0 a1 true) true := Ev.step (f := fun _ => some true) (fun k => by simp [grapevinelaw06_EpochParts.j0]) (Ev.now true)
  by_cases h1 : a0 < 1
  · refine Ev.congr (fun k => ?_) out
    unfold grapevinelaw06_EpochParts.f; rw [anchor_true]; simp [h1]
  by_cases h2 : a0 > 8
  · refine Ev.congr (fun k => ?_) out
    unfold grapevinelaw06_EpochParts.f; rw [anchor_true]; simp [h1, h2]
  by_cases h3 : a1 < 0
  · refine Ev.congr (fun k => ?_) out
    unfold grapevinelaw06_EpochParts.f; rw [anchor_true]; simp [h1, h2, h3]
  by_cases h4 : a1 > 1099511627776
  · refine Ev.congr (fun k => ?_) out
    unfold grapevinelaw06_EpochParts.f; rw [anchor_true]; simp [h1, h2, h3, h4]
  obtain ⟨n, rfl⟩ : ∃ n : Nat, a0 = n := ⟨a0.toNat, by omega⟩
  refine Ev.congr (fun k => ?_) (works n a1 (by omega) (by omega) (by omega) (by omega))
  unfold grapevinelaw06_EpochParts.f; rw [anchor_true]; simp [h1, h2, h3, h4]

end Go.Proofs.Ytjlcaiijapjakaa.EpochPartsPure
