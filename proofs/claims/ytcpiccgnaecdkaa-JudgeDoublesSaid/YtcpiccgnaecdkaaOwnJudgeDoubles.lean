/- JudgeDoubles by hand. -/
import Derived.Test.YtcpiccgnaecdkaaOwnJudgeTwice
import Derived.Deep.AppendLies
import Derived.Deep.RegionLaw
import Derived.Deep.RegionHeld3
import Derived.Deep.Cut
namespace Go.Proofs.Ytcpiccgnaecdkaa.JudgeDoublesWalk
open Go.RowKit Go.Proofs.Ytcpiccgnaecdkaa.QJudgeTwice Go.Proofs.Ytcpiccgnaecdkaa.JudgeTwicePure Go.Proofs.YtcpiccgnaecdkaaW.PrintWords Go.Proofs.YtcpiccgnaecdkaaW.PrintLast Go.Proofs.YtcpiccgnaecdkaaW.PrintMore
set_option linter.unusedVariables false
set_option linter.unusedSimpArgs false
theorem twice_other (e : S27) (h1 : e.f0 ≠ 1) (h3 : e.f0 ≠ 3) : ∀ (l : List S27) (S : List (Int × Int × Int)) (i : Int), twiceFrom S i (l ++ [e]) = twiceFrom S i l := by
  intro l
  induction l with
  | nil => intro S i; simp [twiceFrom, h1, h3]
  | cons x l ih =>
    intro S i
    simp only [List.cons_append, twiceFrom]
    rw [ih, ih]
theorem twice_again (e : S27) (hk : ¬ (e.f0 ≠ 1 ∧ e.f0 ≠ 3)) : ∀ (l : List S27) (S : List (Int × Int × Int)) (i : Int), S.contains (tr e) = true ∨ e ∈ l → i ≤ twiceFrom S i (l ++ [e]) ∧ twiceFrom S i (l ++ [e]) ≤ i + l.length := by
  intro l
  induction l with
  | nil =>
    intro S i h
    have hc : S.contains (tr e) = true := by
      rcases h with h | h
      · exact h
      · cases h
    simp only [List.nil_append, twiceFrom]
    rw [if_neg hk, if_pos hc]
    simp
  | cons x l ih =>
    intro S i h
    simp only [List.cons_append, twiceFrom, List.length_cons]
    by_cases hx : x.f0 ≠ 1 ∧ x.f0 ≠ 3
    · rw [if_pos hx]
      have := ih S (i + 1) (by
        rcases h with h | h
        · exact .inl h
        · rcases List.mem_cons.1 h with rfl | h
          · exact absurd hx hk
          · exact .inr h)
      push_cast
      omega
    · rw [if_neg hx]
      by_cases hc : S.contains (tr x) = true
      · rw [if_pos hc]
        push_cast
        omega
      · rw [if_neg hc]
        have := ih (tr x :: S) (i + 1) (by
          rcases h with h | h
          · exact .inl (by rw [List.contains_cons, h, Bool.or_true])
          · rcases List.mem_cons.1 h with rfl | h
            · exact .inl (by rw [List.contains_cons, beq_self_eq_true, Bool.true_or])
            · exact .inr h)
        push_cast
        omega
/-- The cells of a row that is read. -/
theorem flat {w : World} {ad : Addr} {n : Nat} {xs : List S27} (h : Kd.C k27 w (some ad) n xs) : ∀ m, m ≤ n → ∃ cs : List Value, Reps (k27.K w) 5 (xs.take m) cs ∧ (∀ u ∈ cs, u.oneCell' = true) ∧ ∀ j u, cs[j]? = some u → w.cell? (ad.add j) = some u := by
  intro m
  induction m with
  | zero => exact fun _ => ⟨[], by rw [List.take_zero]; exact Reps.none _ _, (fun u hu => absurd hu (by simp)), (fun j u hj => absurd hj (by simp))⟩
  | succ m ih =>
    intro hm
    obtain ⟨cs, h1, h2, h3⟩ := ih (by omega)
    obtain ⟨hl, _, hc⟩ := h
    obtain ⟨ad', e, hc⟩ := hc (by omega)
    obtain rfl : ad = ad' := by injection e
    have hml : m < xs.length := by omega
    obtain ⟨c, g1, g2, g3⟩ := hc m xs[m] (List.getElem?_eq_getElem hml)
    have g1' : c.length = 5 := g1
    have hcl : cs.length = m * 5 := by rw [h1.1, List.length_take]; omega
    refine ⟨cs ++ c, ?_, fun u hu => ?_, fun j u hj => ?_⟩
    · rw [List.take_add_one, List.getElem?_eq_getElem hml]
      exact h1.snoc g2 g1'
    · rcases List.mem_append.1 hu with hu | hu
      · exact h2 u hu
      · exact k27.K_one g2 u hu
    · rcases Nat.lt_or_ge j cs.length with hlt | hge
      · rw [List.getElem?_append_left hlt] at hj
        exact h3 j u hj
      · rw [List.getElem?_append_right hge] at hj
        have := g3 _ u hj
        rw [show m * k27.sz + (j - cs.length) = j by show m * 5 + _ = _; omega] at this
        exact this
theorem heap_second (w : World) (o o' : Obj) : ((w.alloc o).alloc o').drew.heap[w.heap.size + 1]? = some o' := by
  have h := heap_alloc_new (w.alloc o) o'
  rw [World.size_alloc] at h
  exact h
theorem heap_first (w : World) (o o' : Obj) : ((w.alloc o).alloc o').drew.heap[w.heap.size]? = some o := (Below.heap_alloc _ _ _ (by simp)).trans (heap_alloc_new w o)
theorem info27' : (Try.prog.info? 27).map (fun i => (i.zero, i.size, i.bytes)) = some (some (.agg #[(.int .i64 0), (.int .i64 0), (.int .i64 0), (.int .i64 0), (.slice none 0 0)]), 5, 56) := by kernel_rfl
section
variable {ops : Array Oper} {o : Oper} {a : Act} {K : Act → World → Prop} {Q : Exit → Act → World → Prop} {E : Prop} {W w2 : World}
/-- append onto the empty slice. -/
theorem append_first (hgd : o.guard = none) (s x : Operand) (ho : o.op = .call { callee := .builtin .append, args := #[s, x], argTypes := #[22, 22] })
    (g0 : Nat) (hs : a.eval s = .slice (some ⟨g0, 0, none⟩) 0 0) (hW : Below w2.heap.size w2 W) (hg0 : W.heap[g0]? = some (.cells #[] 27 (0, 0))) (hb0 : w2.heap.size ≤ g0)
    (ad : Addr) (n c : Nat) (hx : a.eval x = .slice (some ad) n c) (cs : List Value) (hl : cs.length = n * 5) (hone : ∀ u ∈ cs, u.oneCell' = true) (hcell : ∀ j u, cs[j]? = some u → w2.cell? (ad.add j) = some u) (h0 : 0 < n) (h60 : n ≤ 60)
    (h : ∀ g cap w1, w1.ownsRow w2.heap.size 27 5 (.slice (some ⟨g, 0, none⟩) n cap) n cs → Below w2.heap.size w2 w1 → (∀ k, k < W.heap.size → k ≠ g0 → w1.heap[k]? = W.heap[k]?) → (g = g0 ∨ W.heap.size ≤ g) → K (a.put o.dst (.slice (some ⟨g, 0, none⟩) n cap)) w1) :
    if Region.wanted o (yielded ops a.tmps) = true then Oper.wp Try.prog o a W K Q else E := by
  obtain ⟨i0, hi, hzz⟩ := Option.map_eq_some_iff.1 info27'
  simp only [Prod.mk.injEq] at hzz
  obtain ⟨hz0, hz1, hz2⟩ := hzz
  have hown : W.ownsRow w2.heap.size 27 5 (.slice (some ⟨g0, 0, none⟩) 0 0) 0 [] := ⟨rfl, .inr ⟨g0, 0, #[], rfl, hb0, hg0, Nat.le_refl _, by decide, rfl, rfl⟩⟩
  refine step_append_lies W hgd s x 22 ho w2.heap.size 27 i0 _ 5 56 Try.underlying22 hi hz0 hz1 hz2 rfl (by decide) _ 0 [] hs hown ad n c cs hx hl (fun j u hu => ?_) hone h0 (by unfold maxLen; omega) (by omega) hW.size _ rfl ?_
  · have h := hcell j u hu
    exact (hW.cell (World.block_lt_of_cell? w2 _ h)).trans h
  · intro g cap w1 hown hgrow hat hlt
    rw [Nat.zero_add] at hown ⊢
    rw [List.nil_append] at hown
    refine h g cap w1 hown (hW.grown hgrow hW.size (fun k hk => by cases hk; exact hb0)) (fun k hk hne => hgrow.block k hk (by simpa [Value.ownBlock] using hne)) ?_
    rcases hat with hat | hat
    · left
      simpa [Value.ownBlock] using hat.symm
    · right
      omega
/-- append of one struct. -/
theorem append_second (hgd : o.guard = none) (s x : Operand) (ho : o.op = .call { callee := .builtin .append, args := #[s, x], argTypes := #[22, 22] })
    (g n cap : Nat) (cs : List Value) (hs : a.eval s = .slice (some ⟨g, 0, none⟩) n cap) (hW : Below w2.heap.size w2 W) (hown : W.ownsRow w2.heap.size 27 5 (.slice (some ⟨g, 0, none⟩) n cap) n cs)
    (p : Nat) (hx : a.eval x = .slice (some ⟨p, 0, none⟩) 1 1) (xs : Array Value) (hp : W.heap[p]? = some (.cells xs 27 (0, 0))) (hl : xs.size = 5) (hone : ∀ u ∈ xs.toList, u.oneCell' = true) (h0 : 0 < n) (h60 : n ≤ 60)
    (h : ∀ g cap w1, w1.ownsRow w2.heap.size 27 5 (.slice (some ⟨g, 0, none⟩) (n + 1) cap) (n + 1) (cs ++ xs.toList) → Below w2.heap.size w2 w1 → K (a.put o.dst (.slice (some ⟨g, 0, none⟩) (n + 1) cap)) w1) :
    if Region.wanted o (yielded ops a.tmps) = true then Oper.wp Try.prog o a W K Q else E := by
  obtain ⟨i0, hi, hzz⟩ := Option.map_eq_some_iff.1 info27'
  simp only [Prod.mk.injEq] at hzz
  obtain ⟨hz0, hz1, hz2⟩ := hzz
  refine step_append_lies W hgd s x 22 ho w2.heap.size 27 i0 _ 5 56 Try.underlying22 hi hz0 hz1 hz2 rfl (by decide) _ n cs hs hown ⟨p, 0, none⟩ 1 1 xs.toList hx (by simp [hl]) (World.news_of_block hp) hone (by decide) (by unfold maxLen; omega) (by omega) hW.size _ rfl ?_
  intro g cap w1 hown' hgrow hat hlt
  exact h g cap w1 hown' (hW.grown hgrow hW.size (fun k hk => own_base hown k hk))
end
theorem row_made {w2 w4 : World} {g n cap B : Nat} {l : List S27} {x : S27} {cs vals : List Value} (hown : w4.ownsRow B 27 5 (.slice (some ⟨g, 0, none⟩) n cap) n (cs ++ vals)) (hl : (l ++ [x]).length = n) (hreps : Reps (k27.K w2) 5 l cs) (hK : k27.K w2 x vals) (hb : Below w2.heap.size w2 w4) :
    Kd.C k27 w4 (some ⟨g, 0, none⟩) n (l ++ [x]) := by
  obtain ⟨A, c, e, hr⟩ := own_reads_row hown ((hreps.snoc hK (k27.K_len hK)).imp_ (fun p c hp => k27.K_below hb hp)) hl
  injection e with e1
  subst e1
  exact hr
theorem twice_n {w : World} (A0 : Option Addr) (c0 n : Nat) (L : List S27) (hn : L.length = n) (hr0 : Kd.C k27 w A0 n L) (hw : ∀ e ∈ L, wfE e) (r : Int) (hr : twiceFrom [] 0 L = r) :
    Calls Try.prog 10 #[.slice A0 n c0] w fun e w' => e = .returned (.int .i64 r) ∧ Below w.heap.size w w' := by
  subst hn hr
  exact twice_walk A0 c0 L w hr0 hw
theorem small_at (l : List S27) (hl : l.length ≤ 9223372036854775807) : ∃ k b, grapevinelaw21_small.f k l = some b ∧ (b = true → l.length ≤ 60) := by
  obtain ⟨b, h1, h2⟩ := small_ends l hl
  obtain ⟨k, h1⟩ := h1
  exact ⟨k, b, h1 k (Nat.le_refl _), fun h => (h2 h).1⟩
set_option maxRecDepth 100000 in
set_option maxHeartbeats 4000000 in
theorem doubles_in (A0 : Option Addr) (c0 : Nat) (l0 : List S27) (k : Nat) (w : World) (hr0 : Kd.C k27 w A0 l0.length l0) (hc0 : l0.length ≤ c0) (hw : ∀ e ∈ l0, wfE e) (hk : k < l0.length) :
    Calls Try.prog 4 #[.slice A0 l0.length c0, .int .i64 k] w fun e w' => e = .returned (.bool true) ∧ Below w.heap.size w w' := by
  have hlen := hr0.2.1
  obtain ⟨m, b, hs, hb⟩ := small_at l0 hlen
  have HR := Aside0.mk hr0
  have HW := Aside0.mk hw
  have HS := Aside0.mk hs
  have HB60 := Aside0.mk hb
  have hk2 : (k : Int) < l0.length := by omega
  clear hr0 hw hs hb
  go_enter Try.func4, Try.ntmps4
  go_upto_region 3 with (first
    | (go_at_call 8; with_reducible refine (anchor_walk _).mono ?_; rintro e w1 ⟨rfl, hb⟩; have HB := Aside0.mk hb; clear hb))
  cases b with
  | false =>
    go_wp2_with (go_at_call 9; with_reducible refine (grapevinelaw21_small.calls m _ _ _ _ _ (Kd.C_below HR.out HB.out) hc0 HS.out).mono ?_; rintro e w2 ⟨rfl, hb⟩; have HB2 := Aside0.mk (HB.out.trans (hb.mono HB.out.size)); clear hb)
    go_ret
    exact ⟨rfl, HB2.out⟩
  | true =>
    have h60 := HB60.out rfl
    go_upto_region 5 with (go_at_call 9; with_reducible refine (grapevinelaw21_small.calls m _ _ _ _ _ (Kd.C_below HR.out HB.out) hc0 HS.out).mono ?_; rintro e w2 ⟨rfl, hb⟩; have HB2 := Aside0.mk (HB.out.trans (hb.mono HB.out.size)); clear hb HB)
    have HC := Aside0.mk (Kd.C_below HR.out HB2.out)
    obtain ⟨ad, A4, c4, hA, h0, h1, h2, h3, h4, h5, h6⟩ := at_T27 HC.out (k : Int) (by omega) (by omega)
    subst hA
    rw [Int.toNat_natCast] at h0 h1 h2 h3 h4
    obtain ⟨cs, hreps, hone, hcell⟩ := flat HC.out l0.length (Nat.le_refl _)
    rw [List.take_length] at hreps
    have HREPS := Aside0.mk hreps
    have HONE := Aside0.mk hone
    have HCELL := Aside0.mk hcell
    have HK27 := Aside0.mk (k27_mk w2 (rd_T27 l0 (k : Int)) h5 h6)
    have HMEM := Aside0.mk (rd_mem l0 k hk)
    clear hreps hone hcell h5 h6
    obtain ⟨x, hx⟩ : ∃ x, rd_T27 l0 (k : Int) = x := ⟨_, rfl⟩
    rw [hx] at h0 h1 h2 h3 h4 HK27 HMEM
    have h0a := fun o => (World.cell?_alloc_lt _ o _ (World.block_lt_of_cell? _ _ h0)).trans h0
    have h1a := fun o => (World.cell?_alloc_lt _ o _ (World.block_lt_of_cell? _ _ h1)).trans h1
    have h2a := fun o => (World.cell?_alloc_lt _ o _ (World.block_lt_of_cell? _ _ h2)).trans h2
    have h3a := fun o => (World.cell?_alloc_lt _ o _ (World.block_lt_of_cell? _ _ h3)).trans h3
    have h4a := fun o => (World.cell?_alloc_lt _ o _ (World.block_lt_of_cell? _ _ h4)).trans h4
    clear hx
    have hlc : cs.length = l0.length * 5 := HREPS.out.1
    obtain ⟨xs, hxs⟩ : ∃ xs : Array Value, xs = #[.int .i64 x.f0, .int .i64 x.f1, .int .i64 x.f2, .int .i64 x.f3, .slice A4 x.f4.length c4] := ⟨_, rfl⟩
    have hx5 : xs.size = 5 := by rw [hxs]; rfl
    have hxone : ∀ u ∈ xs.toList, u.oneCell' = true := by
      rw [hxs]
      intro u hu
      simp only [List.mem_cons, List.not_mem_nil, or_false] at hu
      rcases hu with rfl | rfl | rfl | rfl | rfl <;> rfl
    have B0 := Aside0.mk (Below.refl w2.heap.size w2)
    have HLC := Aside0.mk hlc
    have HX5 := Aside0.mk hx5
    have HXONE := Aside0.mk hxone
    have HXS := Aside0.mk hxs
    clear hlc hx5 hxone hxs
    have hn0 : 0 < l0.length := by omega
    go_region_law (first
      | (refine append_first (w2 := w2) (W := (w2.alloc (.cells #[] 27)).drew) rfl _ _ rfl w2.heap.size rfl (below_drew (B0.out.alloc (Nat.le_refl _) _)) (heap_alloc_new w2 _) (Nat.le_refl _) ad _ c0 rfl cs HLC.out HONE.out HCELL.out hn0 h60 ?_; intro g cap w3 hown hbel hfar hat; have HOWN := Aside0.mk hown; have HBEL := Aside0.mk hbel; have h0c := (hbel.cell (World.block_lt_of_cell? w2 _ h0)).trans h0; have h1c := (hbel.cell (World.block_lt_of_cell? w2 _ h1)).trans h1; have h2c := (hbel.cell (World.block_lt_of_cell? w2 _ h2)).trans h2; have h3c := (hbel.cell (World.block_lt_of_cell? w2 _ h3)).trans h3; have h4c := (hbel.cell (World.block_lt_of_cell? w2 _ h4)).trans h4; clear hown hbel hfar hat)
      | (refine append_first (w2 := w2) (W := ((w2.alloc (.cells #[] 27)).alloc (.cells #[.int .i64 x.f0, .int .i64 x.f1, .int .i64 x.f2, .int .i64 x.f3, .slice A4 x.f4.length c4] 27)).drew) rfl _ _ rfl w2.heap.size rfl (below_drew ((B0.out.alloc (Nat.le_refl _) _).alloc (by simp) _)) (heap_first w2 _ _) (Nat.le_refl _) ad _ c0 rfl cs HLC.out HONE.out HCELL.out hn0 h60 ?_; intro g cap w3 hown hbel hfar hat; have HOWN := Aside0.mk hown; have HBEL := Aside0.mk hbel; have h0c := (hbel.cell (World.block_lt_of_cell? w2 _ h0)).trans h0; have h1c := (hbel.cell (World.block_lt_of_cell? w2 _ h1)).trans h1; have h2c := (hbel.cell (World.block_lt_of_cell? w2 _ h2)).trans h2; have h3c := (hbel.cell (World.block_lt_of_cell? w2 _ h3)).trans h3; have h4c := (hbel.cell (World.block_lt_of_cell? w2 _ h4)).trans h4; have HP := Aside0.mk ((hfar (w2.heap.size + 1) (by show _ < ((w2.alloc (.cells #[] 27)).alloc (.cells #[.int .i64 x.f0, .int .i64 x.f1, .int .i64 x.f2, .int .i64 x.f3, .slice A4 x.f4.length c4] 27)).heap.size; rw [World.size_alloc, World.size_alloc]; omega) (by omega)).trans (heap_second w2 (.cells #[] 27) (.cells #[.int .i64 x.f0, .int .i64 x.f1, .int .i64 x.f2, .int .i64 x.f3, .slice A4 x.f4.length c4] 27))); clear hown hbel hfar hat)
      | (refine append_first (w2 := w2) (W := ((w2.alloc (.cells #[.int .i64 x.f0, .int .i64 x.f1, .int .i64 x.f2, .int .i64 x.f3, .slice A4 x.f4.length c4] 27)).alloc (.cells #[] 27)).drew) rfl _ _ rfl (w2.heap.size + 1) rfl (below_drew ((B0.out.alloc (Nat.le_refl _) _).alloc (by simp) _)) (heap_second w2 (.cells #[.int .i64 x.f0, .int .i64 x.f1, .int .i64 x.f2, .int .i64 x.f3, .slice A4 x.f4.length c4] 27) (.cells #[] 27)) (Nat.le_succ _) ad _ c0 rfl cs HLC.out HONE.out HCELL.out hn0 h60 ?_; intro g cap w3 hown hbel hfar hat; have HOWN := Aside0.mk hown; have HBEL := Aside0.mk hbel; have h0c := (hbel.cell (World.block_lt_of_cell? w2 _ h0)).trans h0; have h1c := (hbel.cell (World.block_lt_of_cell? w2 _ h1)).trans h1; have h2c := (hbel.cell (World.block_lt_of_cell? w2 _ h2)).trans h2; have h3c := (hbel.cell (World.block_lt_of_cell? w2 _ h3)).trans h3; have h4c := (hbel.cell (World.block_lt_of_cell? w2 _ h4)).trans h4; have HP := Aside0.mk ((hfar w2.heap.size (by show _ < ((w2.alloc (.cells #[.int .i64 x.f0, .int .i64 x.f1, .int .i64 x.f2, .int .i64 x.f3, .slice A4 x.f4.length c4] 27)).alloc (.cells #[] 27)).heap.size; rw [World.size_alloc, World.size_alloc]; omega) (by omega)).trans (heap_first w2 _ _)); clear hown hbel hfar hat)
      | (refine append_second (w2 := w2) rfl _ _ rfl _ _ _ cs rfl (HBEL.out.alloc HBEL.out.size _) (HOWN.out.alloc _) _ rfl xs (by rw [HXS.out]; exact heap_alloc_new _ _) HX5.out HXONE.out hn0 h60 ?_; intro g' cap' w4 hown' hbel'; have HOWN' := Aside0.mk hown'; have HBEL' := Aside0.mk hbel'; clear hown' hbel')
      | (refine append_second (w2 := w2) rfl _ _ rfl _ _ _ cs rfl HBEL.out HOWN.out _ rfl xs (by rw [HXS.out]; exact HP.out) HX5.out HXONE.out hn0 h60 ?_; intro g' cap' w4 hown' hbel'; have HOWN' := Aside0.mk hown'; have HBEL' := Aside0.mk hbel'; clear hown' hbel'))
    all_goals
      obtain ⟨r1, hr1⟩ : ∃ r, twiceFrom [] 0 l0 = r := ⟨_, rfl⟩
      obtain ⟨r2, hr2⟩ : ∃ r, twiceFrom [] 0 (l0 ++ [x]) = r := ⟨_, rfl⟩
      have hC2 := Aside0.mk (row_made HOWN'.out (by simp) HREPS.out (by rw [HXS.out]; exact HK27.out) HBEL'.out)
      have hW2 : Aside0 (∀ e ∈ l0 ++ [x], wfE e) := Aside0.mk (fun e he => (List.mem_append.1 he).elim (HW.out e) (fun h => by rw [List.mem_singleton.1 h]; exact HW.out x HMEM.out))
      have HL2 : Aside0 ((l0 ++ [x]).length = l0.length + 1) := Aside0.mk (by simp)
      have HR1 := Aside0.mk hr1
      have HR2 := Aside0.mk hr2
      by_cases hk1 : x.f0 = 1 ∨ x.f0 = 3
      · have hr := twice_again x (by omega) l0 [] 0 (.inr HMEM.out)
        rw [hr2] at hr
        obtain ⟨ra, rb⟩ := hr
        have rc : r2 ≤ l0.length := by omega
        clear hr1 hr2 rb
        rcases hk1 with hk1 | hk1
        · have b1 : (x.f0 == 1) = true := beq_iff_eq.mpr hk1
          clear hk1
          go_wp2_with (go_at_call 10; with_reducible refine (twice_n _ _ _ (l0 ++ [x]) HL2.out hC2.out hW2.out r2 HR2.out).mono ?_; rintro e w5 ⟨rfl, hb⟩; have HB5 := Aside0.mk (HBEL'.out.trans (hb.mono HBEL'.out.size)); have h0d := (HB5.out.cell (World.block_lt_of_cell? w2 _ h0)).trans h0; clear hb)
          go_ret
          exact ⟨by simp [ra, rc], HB2.out.trans (HB5.out.mono HB2.out.size)⟩
        · have b1 : (x.f0 == 1) = false := beq_eq_false_iff_ne.mpr (by omega)
          have b3 : (x.f0 == 3) = true := beq_iff_eq.mpr hk1
          clear hk1
          go_wp2_with (go_at_call 10; with_reducible refine (twice_n _ _ _ (l0 ++ [x]) HL2.out hC2.out hW2.out r2 HR2.out).mono ?_; rintro e w5 ⟨rfl, hb⟩; have HB5 := Aside0.mk (HBEL'.out.trans (hb.mono HBEL'.out.size)); have h0d := (HB5.out.cell (World.block_lt_of_cell? w2 _ h0)).trans h0; clear hb)
          go_ret
          exact ⟨by simp [ra, rc], HB2.out.trans (HB5.out.mono HB2.out.size)⟩
      · have hr := twice_other x (by omega) (by omega) l0 [] 0
        rw [hr1, hr2] at hr
        have b1 : (x.f0 == 1) = false := beq_eq_false_iff_ne.mpr (by omega)
        have b3 : (x.f0 == 3) = false := beq_eq_false_iff_ne.mpr (by omega)
        clear hr1 hr2 hk1
        subst hr
        go_wp2_with (first
          | (go_at_call 10; with_reducible refine (twice_n _ _ _ (l0 ++ [x]) HL2.out hC2.out hW2.out _ HR2.out).mono ?_; rintro e w5 ⟨rfl, hb⟩; have HB5 := Aside0.mk (HBEL'.out.trans (hb.mono HBEL'.out.size)); have h0d := (HB5.out.cell (World.block_lt_of_cell? w2 _ h0)).trans h0; clear hb)
          | (go_at_call 10; with_reducible refine (twice_n _ _ _ l0 rfl (Kd.C_below HC.out HB5.out) HW.out _ HR1.out).mono ?_; rintro e w6 ⟨rfl, hb⟩; have HB6 := Aside0.mk (HB5.out.trans (hb.mono HB5.out.size)); clear hb))
        go_ret
        exact ⟨by simp, HB2.out.trans (HB6.out.mono HB2.out.size)⟩
theorem doubles_out (A0 : Option Addr) (c0 : Nat) (l0 : List S27) (k : Int) (w : World) (hr0 : Kd.C k27 w A0 l0.length l0) (hc0 : l0.length ≤ c0) (hk : k < 0 ∨ (0 ≤ k ∧ (l0.length : Int) ≤ k)) :
    Calls Try.prog 4 #[.slice A0 l0.length c0, .int .i64 k] w fun e w' => e = .returned (.bool true) ∧ Below w.heap.size w w' := by
  have hlen := hr0.2.1
  obtain ⟨m, b, hs, hb⟩ := small_at l0 hlen
  have HR := Aside0.mk hr0
  have HS := Aside0.mk hs
  clear hr0 hs hb
  rcases hk with hk | ⟨hk, hk2⟩
  all_goals cases b
  all_goals (go_enter Try.func4, Try.ntmps4)
  all_goals go_wp2_with (first
    | (go_at_call 8; with_reducible refine (anchor_walk _).mono ?_; rintro e w1 ⟨rfl, hb⟩; have HB := Aside0.mk hb; clear hb)
    | (go_at_call 9; with_reducible refine (grapevinelaw21_small.calls m _ _ _ _ _ (Kd.C_below HR.out HB.out) hc0 HS.out).mono ?_; rintro e w2 ⟨rfl, hb⟩; have HB2 := Aside0.mk (HB.out.trans (hb.mono HB.out.size)); clear hb))
  all_goals go_ret
  all_goals exact ⟨rfl, HB2.out⟩
theorem doubles_calls (A0 : Option Addr) (c0 : Nat) (l0 : List S27) (k : Int) (w : World) (hr0 : Kd.C k27 w A0 l0.length l0) (hc0 : l0.length ≤ c0) (hw : ∀ e ∈ l0, wfE e) :
    Calls Try.prog 4 #[.slice A0 l0.length c0, .int .i64 k] w fun e w' => e = .returned (.bool true) ∧ Below w.heap.size w w' := by
  by_cases hk : 0 ≤ k ∧ k < l0.length
  · obtain ⟨j, rfl⟩ : ∃ j : Nat, k = j := ⟨k.toNat, by omega⟩
    exact doubles_in A0 c0 l0 j w hr0 hc0 hw (by omega)
  · exact doubles_out A0 c0 l0 k w hr0 hc0 (by omega)
end Go.Proofs.Ytcpiccgnaecdkaa.JudgeDoublesWalk
