/- MeterOrder by hand: two meters, the acts in their order and rotated. -/
import Derived.Test.YtblibjnhldocaaaHandO
namespace Go.Proofs.Ytblibjnhldocaaa.HandM
open Go.RowKit
set_option linter.unusedVariables false
set_option linter.unusedSimpArgs false
/-- Two meters of the call's own. -/
structure Two (w wr : World) (b c : Nat) (s t : List Int × Int) : Prop where
  one : My w wr b s.1 s.2 0 0
  two : My w wr c t.1 t.2 0 0
  ne : b ≠ c
theorem Two.near {w wr wr' : World} {b c b2 : Nat} {s t : List Int × Int} (h : Two w wr b c s t) (n : Near b2 wr wr') (h2 : wr.heap.size ≤ b2) : Two w wr' b c s t :=
  ⟨h.one.beside n (Nat.le_trans h.one.bel.size h2) (by have := h.one.mt.lt; omega), h.two.beside n (Nat.le_trans h.one.bel.size h2) (by have := h.two.mt.lt; omega), h.ne⟩
theorem Two.alloc {w wr : World} {b c : Nat} {s t : List Int × Int} (h : Two w wr b c s t) (o : Obj) : Two w (wr.alloc o) b c s t := h.near (Near.alloc wr.heap.size wr o) (Nat.le_refl _)
theorem Two.drew {w wr : World} {b c : Nat} {s t : List Int × Int} (h : Two w wr b c s t) : Two w wr.drew b c s t := h.near (Near.drew wr.heap.size wr) (Nat.le_refl _)
/-- Block p holds an act. -/
structure ActAt (w : World) (p : Nat) (x : ActT) : Prop where
  lt : p < w.heap.size
  c0 : w.cell? ⟨p, 0, none⟩ = some (.int .i64 x.how)
  c1 : w.cell? ⟨p, 1, none⟩ = some (.int .i64 x.kind)
  c2 : w.cell? ⟨p, 2, none⟩ = some (.int .i64 x.n)
theorem ActAt.new (w : World) (x : ActT) (ty : Nat) : ActAt (w.alloc (.cells #[.int .i64 x.how, .int .i64 x.kind, .int .i64 x.n] ty)) w.heap.size x :=
  ⟨by simp, World.cell?_alloc_new _ _ _ _, World.cell?_alloc_new _ _ _ _, World.cell?_alloc_new _ _ _ _⟩
theorem ActAt.alloc {w : World} {p : Nat} {x : ActT} (h : ActAt w p x) (o : Obj) : ActAt (w.alloc o) p x :=
  ⟨by have := h.lt; simp; omega, (World.cell?_alloc_lt _ _ _ h.lt).trans h.c0, (World.cell?_alloc_lt _ _ _ h.lt).trans h.c1, (World.cell?_alloc_lt _ _ _ h.lt).trans h.c2⟩
theorem ActAt.drew {w : World} {p : Nat} {x : ActT} (h : ActAt w p x) : ActAt w.drew p x := ⟨h.lt, h.c0, h.c1, h.c2⟩
theorem run_nil : runA [] = (zeros, 0) := by simp [runA]
/-- A slice of two meters, each beside its act. -/
structure Row8 (w : World) (q b c : Nat) (x y : ActT) : Prop where
  lt : q < w.heap.size
  r0 : w.cell? ⟨q, 0, none⟩ = some (.pointer (some ⟨b, 0, none⟩))
  r1 : w.cell? ⟨q, 1, none⟩ = some (.int .i64 x.how)
  r2 : w.cell? ⟨q, 2, none⟩ = some (.int .i64 x.kind)
  r3 : w.cell? ⟨q, 3, none⟩ = some (.int .i64 x.n)
  r4 : w.cell? ⟨q, 4, none⟩ = some (.pointer (some ⟨c, 0, none⟩))
  r5 : w.cell? ⟨q, 5, none⟩ = some (.int .i64 y.how)
  r6 : w.cell? ⟨q, 6, none⟩ = some (.int .i64 y.kind)
  r7 : w.cell? ⟨q, 7, none⟩ = some (.int .i64 y.n)
theorem Row8.near {w w' : World} {q b c b2 : Nat} {x y : ActT} (h : Row8 w q b c x y) (n : Near b2 w w') (hne : q ≠ b2) : Row8 w' q b c x y := by
  have hb := n.block q h.lt hne
  have hc : ∀ i, w'.cell? ⟨q, i, none⟩ = w.cell? ⟨q, i, none⟩ := fun i => World.cell?_of_block (w := w) hb
  exact ⟨Nat.lt_of_lt_of_le h.lt n.size, (hc _).trans h.r0, (hc _).trans h.r1, (hc _).trans h.r2, (hc _).trans h.r3, (hc _).trans h.r4, (hc _).trans h.r5, (hc _).trans h.r6, (hc _).trans h.r7⟩
theorem Row8.new (w : World) (b c : Nat) (x y : ActT) (ty : Nat) : Row8 (w.alloc (.cells #[.pointer (some ⟨b, 0, none⟩), .int .i64 x.how, .int .i64 x.kind, .int .i64 x.n, .pointer (some ⟨c, 0, none⟩), .int .i64 y.how, .int .i64 y.kind, .int .i64 y.n] ty)) w.heap.size b c x y :=
  ⟨by simp, World.cell?_alloc_new _ _ _ _, World.cell?_alloc_new _ _ _ _, World.cell?_alloc_new _ _ _ _, World.cell?_alloc_new _ _ _ _, World.cell?_alloc_new _ _ _ _, World.cell?_alloc_new _ _ _ _, World.cell?_alloc_new _ _ _ _, World.cell?_alloc_new _ _ _ _⟩
/-- Two meters and the slice of them. -/
structure Two8 (w wr : World) (b c q : Nat) (x y : ActT) (s t : List Int × Int) : Prop where
  two : Two w wr b c s t
  row : Row8 wr q b c x y
  nb : q ≠ b
  nc : q ≠ c
theorem Two8.alloc {w wr : World} {b c q : Nat} {x y : ActT} {s t : List Int × Int} (h : Two8 w wr b c q x y s t) (o : Obj) : Two8 w (wr.alloc o) b c q x y s t :=
  ⟨h.two.alloc o, h.row.near (Near.alloc wr.heap.size wr o) (by have := h.row.lt; omega), h.nb, h.nc⟩
theorem count_one {w wr : World} {b c q : Nat} {x y : ActT} {s t : List Int × Int} (h : Two8 w wr b c q x y s t) (k n : Int) (s' : List Int × Int) (hs' : (counted s.1 k n, s.2) = s') (hs : Small s.1 4611686014132420608) :
    Calls Try.prog 13 #[.pointer (some ⟨b, 0, none⟩), .int .i64 k, .int .i64 n] wr fun e w' => (∃ r, e = .returned (.bool r)) ∧ Two8 w w' b c q x y s' t :=
  (count_my w b s.1 s.2 0 k n wr h.two.one _ rfl _ rfl hs).mono fun e w' ⟨h1, h2, h3⟩ => ⟨⟨_, h1⟩, ⟨by rw [← hs']; exact ⟨h2, h.two.two.beside h3 h.two.one.new (Ne.symm h.two.ne), h.two.ne⟩, h.row.near h3 h.nb, h.nb, h.nc⟩⟩
theorem count_two {w wr : World} {b c q : Nat} {x y : ActT} {s t : List Int × Int} (h : Two8 w wr b c q x y s t) (k n : Int) (t' : List Int × Int) (ht' : (counted t.1 k n, t.2) = t') (ht : Small t.1 4611686014132420608) :
    Calls Try.prog 13 #[.pointer (some ⟨c, 0, none⟩), .int .i64 k, .int .i64 n] wr fun e w' => (∃ r, e = .returned (.bool r)) ∧ Two8 w w' b c q x y s t' :=
  (count_my w c t.1 t.2 0 k n wr h.two.two _ rfl _ rfl ht).mono fun e w' ⟨h1, h2, h3⟩ => ⟨⟨_, h1⟩, ⟨by rw [← ht']; exact ⟨h.two.one.beside h3 h.two.two.new h.two.ne, h2, h.two.ne⟩, h.row.near h3 h.nc, h.nb, h.nc⟩⟩
theorem mark_one {w wr : World} {b c q : Nat} {x y : ActT} {s t : List Int × Int} (h : Two8 w wr b c q x y s t) (n : Int) (s' : List Int × Int) (hs' : (s.1, max s.2 n) = s') :
    Calls Try.prog 11 #[.pointer (some ⟨b, 0, none⟩), .int .i64 n] wr fun e w' => (∃ r, e = .returned (.bool r)) ∧ Two8 w w' b c q x y s' t :=
  (mark_my w b s.1 s.2 0 n wr h.two.one _ rfl _ rfl).mono fun e w' ⟨h1, h2, h3⟩ => ⟨⟨_, h1⟩, ⟨by rw [← hs']; exact ⟨h2, h.two.two.beside h3 h.two.one.new (Ne.symm h.two.ne), h.two.ne⟩, h.row.near h3 h.nb, h.nb, h.nc⟩⟩
theorem mark_two {w wr : World} {b c q : Nat} {x y : ActT} {s t : List Int × Int} (h : Two8 w wr b c q x y s t) (n : Int) (t' : List Int × Int) (ht' : (t.1, max t.2 n) = t') :
    Calls Try.prog 11 #[.pointer (some ⟨c, 0, none⟩), .int .i64 n] wr fun e w' => (∃ r, e = .returned (.bool r)) ∧ Two8 w w' b c q x y s t' :=
  (mark_my w c t.1 t.2 0 n wr h.two.two _ rfl _ rfl).mono fun e w' ⟨h1, h2, h3⟩ => ⟨⟨_, h1⟩, ⟨by rw [← ht']; exact ⟨h.two.one.beside h3 h.two.two.new h.two.ne, h2, h.two.ne⟩, h.row.near h3 h.nc, h.nb, h.nc⟩⟩
def IRel (w : World) (b c q : Nat) (x y : ActT) (s s' t t' : List Int × Int) (i : Value) (wr : World) : Prop :=
  (i = .int .i64 0 ∧ Two8 w wr b c q x y s t) ∨ (i = .int .i64 1 ∧ Two8 w wr b c q x y s' t) ∨ (i = .int .i64 2 ∧ Two8 w wr b c q x y s' t')
theorem small_step {s : List Int × Int} {j : Nat} (h : Small s.1 (j * 4294967296)) (x : ActT) : Small (stepA s x).1 ((j + 1 : Nat) * 4294967296) := by
  unfold stepA
  by_cases hx : x.how = 1
  · rw [if_pos hx]
    by_cases hk : okC x.kind x.n
    · exact h.counted x.kind x.n (by have := hk.2.2.2; push_cast; omega) (by push_cast; omega)
    · simp only [HandM.counted, if_neg hk]
      exact Small.mono h (m' := ((j + 1 : Nat) : Int) * 4294967296) (by push_cast; omega)
  · rw [if_neg hx]
    exact Small.mono h (m' := ((j + 1 : Nat) : Int) * 4294967296) (by push_cast; omega)
theorem runA_succ (l : List ActT) (j : Nat) (hj : j < l.length) (x : ActT) (hx : l.getD j ⟨0, 0, 0⟩ = x) : runA (l.take (j + 1)) = stepA (runA (l.take j)) x := by
  unfold runA
  rw [List.take_add_one, List.foldl_append, List.getElem?_eq_getElem hj]
  rw [List.getD_eq_getElem?_getD, List.getElem?_eq_getElem hj] at hx
  rw [← hx]
  rfl
theorem small_run (l : List ActT) : ∀ j, j ≤ l.length → Small (runA (l.take j)).1 (j * 4294967296) := by
  intro j
  induction j with
  | zero =>
    intro _
    rw [List.take_zero, run_nil]
    exact small_zeros.mono (by omega)
  | succ j ih =>
    intro hj
    rw [runA_succ l j (by omega) _ rfl]
    exact small_step (ih (by omega)) _
theorem step_count {s : List Int × Int} {x : ActT} (h : (x.how == 1) = true) : (counted s.1 x.kind x.n, s.2) = stepA s x := by
  unfold stepA
  rw [if_pos (by simpa using h)]
theorem step_mark {s : List Int × Int} {x : ActT} (h : (x.how == 1) = false) : (s.1, max s.2 x.n) = stepA s x := by
  unfold stepA
  rw [if_neg (by simpa using h)]
theorem rotated_at {l : List ActT} {len j k m : Nat} (hl : l.length = len) (hk : k ≤ len) (hj : j < len) (hm : ((j : Int) + k) % len = m) (y : ActT) (hy : l.getD m ⟨0, 0, 0⟩ = y) : (l.drop k ++ l.take k).getD j ⟨0, 0, 0⟩ = y := by
  have hm' : (j + k) % len = m := by exact_mod_cast hm
  rw [← hy, List.getD_eq_getElem?_getD, List.getD_eq_getElem?_getD, List.getElem?_append]
  by_cases h : j < len - k
  · rw [if_pos (by simpa [hl] using h), List.getElem?_drop, ← hm', Nat.mod_eq_of_lt (by omega), Nat.add_comm]
  · rw [if_neg (by simpa [hl] using h), List.getElem?_take, List.length_drop, hl, if_pos (by omega)]
    rw [show m = j - (len - k) by rw [← hm', Nat.mod_eq_sub_mod (by omega), Nat.mod_eq_of_lt (by omega)]; omega]
theorem irel1 {w : World} {b c q : Nat} {x y : ActT} {s s' t t' : List Int × Int} {wr : World} (h : Two8 w wr b c q x y s' t) : IRel w b c q x y s s' t t' (.int .i64 1) wr := Or.inr (Or.inl ⟨rfl, h⟩)
theorem irel2 {w : World} {b c q : Nat} {x y : ActT} {s s' t t' : List Int × Int} {wr : World} (h : Two8 w wr b c q x y s' t') : IRel w b c q x y s s' t t' (.int .i64 2) wr := Or.inr (Or.inr ⟨rfl, h⟩)
theorem sum_small {cs : List Int} {n : Nat} (h : Small cs (n * 4294967296)) (hn : n ≤ 100) : sumC cs ≤ 2305843009213693952 := by
  have h1 : ∀ i : Nat, i ≤ 16 → upto (fun x => x) cs i ≤ i * 429496729600 := by
    intro i
    induction i with
    | zero => intro _; exact Int.le_refl _
    | succ i ih =>
      intro hi
      have h2 := ih (by omega)
      have h3 := (h i).2
      simp only [upto]
      push_cast
      omega
  have h4 := h1 16 (Nat.le_refl _)
  unfold sumC
  omega
def ORel (w : World) (b c : Nat) (l r : List ActT) (i : Value) (wr : World) : Prop :=
  ∃ j : Nat, j ≤ l.length ∧ i = .int .i64 j ∧ Two w wr b c (runA (l.take j)) (runA (r.take j))
set_option maxRecDepth 100000 in
set_option maxHeartbeats 8000000 in
theorem order_in (a : Option Addr) (cap : Nat) (l : List ActT) (len : Nat) (at_ : Int) (w : World) (s : Acts w a len l) (h100 : len ≤ 100) (k : Nat) (hk : k ≤ len) (hat : 0 ≤ at_) (hmod : at_ % ((len : Int) + 1) = k) : Calls Try.prog 5 #[.slice a len cap, .int .i64 at_] w fun e w' => e = .returned (.bool true) ∧ Below w.heap.size w w' := by
  have HL := Aside0.mk s
  have HK := Aside0.mk hk
  have HMOD := Aside0.mk hmod
  have hl := s.1
  clear s hk hmod
  go_enter Try.func5, Try.ntmps5
  go_upto_region 6 with (first
    | (go_at_call 9; with_reducible refine (anchor_c _).mono ?_; rintro e w1 ⟨rfl, hb⟩; have HB := Aside0.mk hb; clear hb))
  rw [HMOD.out]
  go_upto_region 7 with (first
    | (go_at_call 10; with_reducible refine (new_my w _ HB.out).mono ?_; rintro e w1 ⟨b, rfl, hm, -, -⟩; have HM1 := Aside0.mk hm; clear hm HB)
    | (go_at_call 10; with_reducible refine (new_my w _ HM1.out.bel).mono ?_; rintro e w2 ⟨c, rfl, hm, hbel, hc⟩; have HT := Aside0.mk (Two.mk (s := (zeros, 0)) (t := (zeros, 0)) (b := b) (c := c) ⟨HM1.out.mt.below hbel HM1.out.mt.lt, HM1.out.new, hm.bel⟩ hm (by rw [hc]; have := HM1.out.mt.lt; omega)); clear hm hbel hc HM1))
  go_wp2
  go_loopw [32] (fun i wr => ORel w b c l (l.drop k ++ l.take k) i wr) (fun i _ => len - (intOf i).toNat)
  case atStart => exact ⟨0, by omega, rfl, by rw [List.take_zero, List.take_zero, run_nil]; exact HT.out⟩
  case round =>
    clear HT
    obtain ⟨j, hj, rfl, hT⟩ := hrel
    have HT := Aside0.mk hT
    clear hT
    by_cases hlt : j < len
    · have hlt2 : (j : Int) < len := by omega
      obtain ⟨ad, hAd, c0, c1, c2⟩ := HL.out.at hlt
      subst hAd
      have hk := HK.out
      obtain ⟨m, hm⟩ : ∃ m : Nat, ((j : Int) + k) % len = m := ⟨(((j : Int) + k) % len).toNat, by have := Int.emod_nonneg ((j : Int) + k) (show (len : Int) ≠ 0 by omega); omega⟩
      have hml : m < len := by have := Int.emod_lt_of_pos ((j : Int) + k) (show 0 < (len : Int) by omega); omega
      go_upto_region 10 with fail
      obtain ⟨ad2, hAd2, e0, e1, e2⟩ := HL.out.at hml
      obtain rfl : ad = ad2 := by injection hAd2
      obtain ⟨x, hx⟩ : ∃ x, l.getD j ⟨0, 0, 0⟩ = x := ⟨_, rfl⟩
      obtain ⟨y, hy⟩ : ∃ y, l.getD m ⟨0, 0, 0⟩ = y := ⟨_, rfl⟩
      rw [hx] at c0 c1 c2
      rw [hy] at e0 e1 e2
      have hb := HT.out.one.bel
      replace c0 := (hb.cell (World.block_lt_of_cell? w _ c0)).trans c0
      replace c1 := (hb.cell (World.block_lt_of_cell? w _ c1)).trans c1
      replace c2 := (hb.cell (World.block_lt_of_cell? w _ c2)).trans c2
      replace e0 := (hb.cell (World.block_lt_of_cell? w _ e0)).trans e0
      replace e1 := (hb.cell (World.block_lt_of_cell? w _ e1)).trans e1
      replace e2 := (hb.cell (World.block_lt_of_cell? w _ e2)).trans e2
      have hm0 : 0 ≤ ((j : Int) + k) % len := by rw [hm]; omega
      have hm1 : ((j : Int) + k) % len < len := by rw [hm]; omega
      have hm2 : (((j : Int) + k) % len).toNat = m := by rw [hm, Int.toNat_natCast]
      have hlen : (len : Int) ≤ 100 := by omega
      have c0a := fun o => (World.cell?_alloc_lt _ o _ (World.block_lt_of_cell? _ _ c0)).trans c0
      have c0b := fun o o' => (World.cell?_alloc_lt _ o' _ (World.block_lt_of_cell? _ _ (c0a o))).trans (c0a o)
      have c1a := fun o => (World.cell?_alloc_lt _ o _ (World.block_lt_of_cell? _ _ c1)).trans c1
      have c1b := fun o o' => (World.cell?_alloc_lt _ o' _ (World.block_lt_of_cell? _ _ (c1a o))).trans (c1a o)
      have c2a := fun o => (World.cell?_alloc_lt _ o _ (World.block_lt_of_cell? _ _ c2)).trans c2
      have c2b := fun o o' => (World.cell?_alloc_lt _ o' _ (World.block_lt_of_cell? _ _ (c2a o))).trans (c2a o)
      have e0a := fun o => (World.cell?_alloc_lt _ o _ (World.block_lt_of_cell? _ _ e0)).trans e0
      have e0b := fun o o' => (World.cell?_alloc_lt _ o' _ (World.block_lt_of_cell? _ _ (e0a o))).trans (e0a o)
      have e1a := fun o => (World.cell?_alloc_lt _ o _ (World.block_lt_of_cell? _ _ e1)).trans e1
      have e1b := fun o o' => (World.cell?_alloc_lt _ o' _ (World.block_lt_of_cell? _ _ (e1a o))).trans (e1a o)
      have e2a := fun o => (World.cell?_alloc_lt _ o _ (World.block_lt_of_cell? _ _ e2)).trans e2
      have e2b := fun o o' => (World.cell?_alloc_lt _ o' _ (World.block_lt_of_cell? _ _ (e2a o))).trans (e2a o)
      have HX := Aside0.mk hx
      have S1 := Aside0.mk (Small.mono (m' := 4611686014132420608) (small_run l j (by omega)) (by omega))
      have S2 := Aside0.mk (Small.mono (m' := 4611686014132420608) (small_run (l.drop k ++ l.take k) j (by simp; omega)) (by omega))
      have HY := Aside0.mk (rotated_at hl hk hlt hm y hy)
      clear hb hx hy hAd2
      go_region
      all_goals (go_upto_region 11 with fail)
      have hP := Aside0.mk (((ActAt.new wr x 34).alloc (.cells #[.int .i64 y.how, .int .i64 y.kind, .int .i64 y.n] 34)).drew)
      have hQ := Aside0.mk ((ActAt.new (wr.alloc (.cells #[.int .i64 x.how, .int .i64 x.kind, .int .i64 x.n] 34)) y 34).drew)
      have hT := Aside0.mk (((HT.out.alloc (.cells #[.int .i64 x.how, .int .i64 x.kind, .int .i64 x.n] 34)).alloc (.cells #[.int .i64 y.how, .int .i64 y.kind, .int .i64 y.n] 34)).drew)
      clear HT c0a c0b c1a c1b c2a c2b e0a e0b e1a e1b e2a e2b c0 c1 c2 e0 e1 e2
      rw [show (wr.alloc (.cells #[.int .i64 x.how, .int .i64 x.kind, .int .i64 x.n] 34)).heap.size = wr.heap.size + 1 by simp] at hQ
      generalize ((wr.alloc (.cells #[.int .i64 x.how, .int .i64 x.kind, .int .i64 x.n] 34)).alloc (.cells #[.int .i64 y.how, .int .i64 y.kind, .int .i64 y.n] 34)).drew = W at hP hQ hT ⊢
      generalize wr.heap.size + 1 = q at hQ ⊢
      generalize wr.heap.size = p at hP ⊢
      rotate_left
      have hQ := Aside0.mk (((ActAt.new wr y 34).alloc (.cells #[.int .i64 x.how, .int .i64 x.kind, .int .i64 x.n] 34)).drew)
      have hP := Aside0.mk ((ActAt.new (wr.alloc (.cells #[.int .i64 y.how, .int .i64 y.kind, .int .i64 y.n] 34)) x 34).drew)
      have hT := Aside0.mk (((HT.out.alloc (.cells #[.int .i64 y.how, .int .i64 y.kind, .int .i64 y.n] 34)).alloc (.cells #[.int .i64 x.how, .int .i64 x.kind, .int .i64 x.n] 34)).drew)
      clear HT c0a c0b c1a c1b c2a c2b e0a e0b e1a e1b e2a e2b c0 c1 c2 e0 e1 e2
      rw [show (wr.alloc (.cells #[.int .i64 y.how, .int .i64 y.kind, .int .i64 y.n] 34)).heap.size = wr.heap.size + 1 by simp] at hP
      generalize ((wr.alloc (.cells #[.int .i64 y.how, .int .i64 y.kind, .int .i64 y.n] 34)).alloc (.cells #[.int .i64 x.how, .int .i64 x.kind, .int .i64 x.n] 34)).drew = W at hP hQ hT ⊢
      generalize wr.heap.size + 1 = p at hP ⊢
      generalize wr.heap.size = q at hQ ⊢
      all_goals (
        obtain ⟨-, c0, c1, c2⟩ := hP.out
        obtain ⟨-, e0, e1, e2⟩ := hQ.out
        go_wp2
        have hT8 := Aside0.mk (Two8.mk (hT.out.alloc _) (Row8.new W b c x y 35) (by have := hT.out.one.mt.lt; omega) (by have := hT.out.two.mt.lt; omega))
        generalize W.alloc _ = W8 at hT8 ⊢
        generalize W.heap.size = q8 at hT8 ⊢
        clear hT hP hQ c0 c1 c2 e0 e1 e2 hm hm0 hm1 hm2
        go_loopw [56] (fun i wr => IRel w b c q8 x y (runA (l.take j)) (stepA (runA (l.take j)) x) (runA ((l.drop k ++ l.take k).take j)) (stepA (runA ((l.drop k ++ l.take k).take j)) y) i wr) (fun i _ => 2 - (intOf i).toNat)
        case atStart => exact Or.inl ⟨rfl, hT8.out⟩
        case round =>
          clear hT8
          rcases hrel with ⟨rfl, hT8⟩ | ⟨rfl, hT8⟩ | ⟨rfl, hT8⟩
          · obtain ⟨r0, r1, r2, r3⟩ : wr.cell? ⟨q8, 0, none⟩ = _ ∧ wr.cell? ⟨q8, 1, none⟩ = _ ∧ wr.cell? ⟨q8, 2, none⟩ = _ ∧ wr.cell? ⟨q8, 3, none⟩ = _ := ⟨hT8.row.r0, hT8.row.r1, hT8.row.r2, hT8.row.r3⟩
            have HT8 := Aside0.mk hT8
            clear hT8
            by_cases hh : (x.how == 1) = true
            · have HH := Aside0.mk hh
              go_wp2_with (go_at_call 13; with_reducible refine (count_one (HT8.out.alloc _) _ _ _ (step_count HH.out) S1.out).mono ?_; rintro e w1 ⟨⟨r, rfl⟩, ht⟩; have HT8' := Aside0.mk ht; clear ht HT8; have HT8 := HT8'; clear HT8')
              go_roundw
              case rel => exact irel1 HT8.out
              case measure => simp [intOf]
            · have hf : (x.how == 1) = false := by simpa using hh
              have HF := Aside0.mk hf
              clear hh
              go_wp2_with (go_at_call 11; with_reducible refine (mark_one (HT8.out.alloc _) _ _ (step_mark HF.out)).mono ?_; rintro e w1 ⟨⟨r, rfl⟩, ht⟩; have HT8' := Aside0.mk ht; clear ht HT8; have HT8 := HT8'; clear HT8')
              go_roundw
              case rel => exact irel1 HT8.out
              case measure => simp [intOf]
          · obtain ⟨r4, r5, r6, r7⟩ : wr.cell? ⟨q8, 4, none⟩ = _ ∧ wr.cell? ⟨q8, 5, none⟩ = _ ∧ wr.cell? ⟨q8, 6, none⟩ = _ ∧ wr.cell? ⟨q8, 7, none⟩ = _ := ⟨hT8.row.r4, hT8.row.r5, hT8.row.r6, hT8.row.r7⟩
            have HT8 := Aside0.mk hT8
            clear hT8
            by_cases hh : (y.how == 1) = true
            · have HH := Aside0.mk hh
              go_wp2_with (go_at_call 13; with_reducible refine (count_two (HT8.out.alloc _) _ _ _ (step_count HH.out) S2.out).mono ?_; rintro e w1 ⟨⟨r, rfl⟩, ht⟩; have HT8' := Aside0.mk ht; clear ht HT8; have HT8 := HT8'; clear HT8')
              go_roundw
              case rel => exact irel2 HT8.out
              case measure => simp [intOf]
            · have hf : (y.how == 1) = false := by simpa using hh
              have HF := Aside0.mk hf
              clear hh
              go_wp2_with (go_at_call 11; with_reducible refine (mark_two (HT8.out.alloc _) _ _ (step_mark HF.out)).mono ?_; rintro e w1 ⟨⟨r, rfl⟩, ht⟩; have HT8' := Aside0.mk ht; clear ht HT8; have HT8 := HT8'; clear HT8')
              go_roundw
              case rel => exact irel2 HT8.out
              case measure => simp [intOf]
          · have HT8 := Aside0.mk hT8
            clear hT8
            go_wp2
            go_roundw
            case rel => exact ⟨j + 1, by omega, by go_num, by
              rw [runA_succ l j (by omega) x HX.out, runA_succ (l.drop k ++ l.take k) j (by have := HL.out.1; simp; omega) y HY.out]; exact HT8.out.two⟩
            case measure => simp [intOf]; omega)
    · have ej : j = len := by have := hj; omega
      have h1 : Two w wr b c (runA l) (runA l) := by
        have h := HT.out
        rw [List.take_of_length_le (by omega), List.take_of_length_le (by have := HK.out; simp; omega), run_rotated] at h
        exact h
      have HS := Aside0.mk (small_run l l.length (Nat.le_refl _))
      rw [List.take_length] at HS
      clear HT
      obtain ⟨s, hs⟩ : ∃ s, runA l = s := ⟨_, rfl⟩
      rw [hs] at h1 HS
      have HT := Aside0.mk h1
      clear h1 hs
      subst ej
      go_wp2
      obtain ⟨w2, hw2⟩ : ∃ w2, w2 = wr := ⟨_, rfl⟩
      subst hw2
      go_loopw [81] (fun i wr => ∃ m : Nat, m ≤ 16 ∧ i = .int .i64 m ∧ wr = w2) (fun i _ => 16 - (intOf i).toNat)
      case atStart => exact ⟨0, by omega, rfl, rfl⟩
      case round =>
        obtain ⟨m, hm, rfl, rfl⟩ := hrel
        by_cases hlt3 : m < 16
        · have hlt2 : (m : Int) < 16 := by omega
          go_wp2_with (first
            | (go_at_call 14; with_reducible refine (get_my w b s.1 s.2 0 0 m _ HT.out.one _ rfl).mono ?_; rintro e w1 ⟨rfl, rfl⟩)
            | (go_at_call 14; with_reducible refine (get_my w c s.1 s.2 0 0 m _ HT.out.two _ rfl).mono ?_; rintro e w1 ⟨rfl, rfl⟩))
          go_roundw
          case rel => exact ⟨m + 1, by omega, by go_num, trivial⟩
          case measure => simp [intOf]; omega
        · have hge : 16 ≤ (m : Int) := by omega
          have hpos : ∀ k, k < 16 → 0 ≤ s.1.getD k 0 := fun k _ => (HS.out k).1
          have hsum : sumC s.1 ≤ 2305843009213693952 := sum_small HS.out (by have := HL.out.1; omega)
          have HPOS := Aside0.mk hpos
          have HSUM := Aside0.mk hsum
          clear hpos hsum hm hlt3
          go_wp2_with (first
            | (go_at_call 12; with_reducible refine (high_my w b s.1 s.2 0 0 _ HT.out.one).mono ?_; rintro e w1 ⟨rfl, rfl⟩)
            | (go_at_call 12; with_reducible refine (high_my w c s.1 s.2 0 0 _ HT.out.two).mono ?_; rintro e w1 ⟨rfl, rfl⟩)
            | (go_at_call 15; with_reducible refine (total_my w b s.1 s.2 0 0 _ HT.out.one HPOS.out HSUM.out).mono ?_; rintro e w1 ⟨rfl, rfl⟩)
            | (go_at_call 15; with_reducible refine (total_my w c s.1 s.2 0 0 _ HT.out.two HPOS.out HSUM.out).mono ?_; rintro e w1 ⟨rfl, rfl⟩))
          all_goals go_ret
          all_goals exact ⟨rfl, HT.out.one.bel⟩
theorem order_calls (a : Option Addr) (cap : Nat) (l : List ActT) (len : Nat) (at_ : Int) (w : World) (s : Acts w a len l) : Calls Try.prog 5 #[.slice a len cap, .int .i64 at_] w fun e w' => e = .returned (.bool true) ∧ Below w.heap.size w w' := by
  by_cases h100 : len ≤ 100
  · by_cases hat : 0 ≤ at_
    · have h1 := Int.emod_nonneg at_ (show (len : Int) + 1 ≠ 0 by omega)
      have h2 := Int.emod_lt_of_pos at_ (show 0 < (len : Int) + 1 by omega)
      exact order_in a cap l len at_ w s h100 (at_ % ((len : Int) + 1)).toNat (by omega) hat (by omega)
    · have hlen := s.2.1
      clear s
      go_enter Try.func5, Try.ntmps5
      go_wp2_with (go_at_call 9; with_reducible refine (anchor_c _).mono ?_; rintro e w1 ⟨rfl, hb⟩; have HB := Aside0.mk hb; clear hb)
      go_ret
      exact ⟨rfl, HB.out⟩
  · have hlen := s.2.1
    clear s
    go_enter Try.func5, Try.ntmps5
    go_wp2_with (go_at_call 9; with_reducible refine (anchor_c _).mono ?_; rintro e w1 ⟨rfl, hb⟩; have HB := Aside0.mk hb; clear hb)
    go_ret
    exact ⟨rfl, HB.out⟩
end Go.Proofs.Ytblibjnhldocaaa.HandM
