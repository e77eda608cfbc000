/- made.Packet, by hand: a packet as the document has it. -/
import Derived.Test.YtldiipomcenbkaaHandD
import Derived.Test.YtldiipomcenbkaaQe
namespace Go.Proofs.Ytldiipomcenbkaa.Qw
open Go.RowKit Go.Proofs.YtldiipomcenbkaaW.PrintWords Go.Proofs.YtldiipomcenbkaaW.PrintLast Go.Proofs.YtldiipomcenbkaaW.PrintMore
set_option linter.unusedVariables false
set_option linter.unusedSimpArgs false
def to49 (x : S48) : S49 := ⟨x.f0, x.f1⟩
section
variable {ops : Array Oper} {rest : List Oper} {o : Oper} {a : Act} {Q : Exit → Act → World → Prop} {w1 W : World}
theorem append_49 {k b : Nat} {cs : List Value} {x y : Int} (hgd : o.guard = none) (s z : Operand) (ho : o.op = .call { callee := .builtin .append, args := #[s, z], argTypes := #[28, 28] })
    (v : Value) (hs : a.eval s = v) (hO : W.ownsRow b 49 2 v k cs) (hB : Below w1.heap.size w1 W) (q : Nat) (hx : a.eval z = .slice (some ⟨q, 0, none⟩) 1 1) (hq : W.heap[q]? = some (.cells #[.int .i64 x, .int .i64 y] 49 (0, 0)))
    (hge : w1.heap.size ≤ b) (hbl : b ≤ W.heap.size) (hk : k ≤ 300) (h : ∀ g cap w', w'.ownsRow b 49 2 (.slice (some ⟨g, 0, none⟩) (k + 1) cap) (k + 1) (cs ++ [.int .i64 x, .int .i64 y]) → Below w1.heap.size w1 w' → (∀ j, j < b → w'.heap[j]? = W.heap[j]?) → wpList Try.prog ops Q rest (a.put o.dst (.slice (some ⟨g, 0, none⟩) (k + 1) cap)) w') :
    wpList Try.prog ops Q (o :: rest) a W := by
  obtain ⟨i0, hi, hzz⟩ := Option.map_eq_some_iff.1 info49
  simp only [Prod.mk.injEq] at hzz
  obtain ⟨hz0, hz1, hz2⟩ := hzz
  refine wpList_append_lies W hgd s z 28 ho b 49 i0 _ 2 16 Try.underlying28 hi hz0 hz1 hz2 rfl (by decide) v k cs hs hO ⟨q, 0, none⟩ 1 1 [.int .i64 x, .int .i64 y] hx rfl (World.news_of_block hq) (fun u hu => ?_) (by decide) (by unfold maxLen; omega) (by omega) hbl _ rfl ?_
  · simp only [List.mem_cons, List.not_mem_nil, or_false] at hu
    rcases hu with rfl | rfl <;> rfl
  · intro g cap w' hown' hgrow hat hlt
    exact h g cap w' hown' (hB.grown hgrow hB.size (fun j hj => by have := own_base hO j hj; omega)) (fun j hj => hgrow.block j (by omega) (fun e => by have := own_base hO j e.symm; omega))
end
def entC (l : List S48) : List Value := l.flatMap fun x => [.int .i64 x.f0, .int .i64 x.f1]
theorem entC_take (l : List S48) (k : Nat) (hk : k < l.length) : entC (l.take (k + 1)) = entC (l.take k) ++ [.int .i64 (rd_T48 l (k : Int)).f0, .int .i64 (rd_T48 l (k : Int)).f1] := by
  unfold entC
  rw [take_at l k hk, List.flatMap_append]
  rfl
theorem reps49 (w : World) (b : Nat) (ok : Nat → Prop) (xs : List S48) : Reps (k49.M w b ok) 2 (xs.map to49) (entC xs) := by
  unfold entC
  induction xs with
  | nil => exact Reps.none _ _
  | cons x xs ih => exact Reps.c2 (k49_mkM w b ok (to49 x)) ih
theorem R49 {w : World} {b k : Nat} {v : Value} {l : List S48} (h : w.ownsRow b 49 2 v k (entC l)) (hl : l.length = k) : Kd.R k49 49 w b (fun _ => True) v (l.map to49) :=
  ⟨fun _ _ => trivial, _, by rw [List.length_map, hl]; exact h, reps49 w b _ l⟩
theorem C49 {w : World} {b k d : Nat} {E : Option Addr} {l : List S48} (h : w.ownsRow b 49 2 (.slice E k d) k (entC l)) (hl : l.length = k) : Kd.C k49 w E k (l.map to49) := by
  have := (Kd.R_reads' (R49 h hl)).2.2
  rw [List.length_map, hl] at this
  exact this
/-- Block g holds the packet so far; of its entries k are there. -/
def MkRel (w1 : World) (g : Nat) (P : Array Value) (l : List S48) (n : Nat) (i : Value) (wr : World) : Prop :=
  ∃ (k : Nat) (v : Value), k ≤ n ∧ i = .int .i64 k ∧ wr.heap[g]? = some (.cells (P.push v) 30 (0, 0)) ∧ wr.ownsRow (g + 1) 49 2 v k (entC (l.take k)) ∧ Below w1.heap.size w1 wr
set_option maxRecDepth 100000 in
set_option maxHeartbeats 8000000 in
theorem made_c (a0 a1 a2 a3 a4 a5 a6 a7 a8 a9 : Int) (A : Option Addr) (c : Nat) (l : List S48) (n : Nat) (hn : l.length = n) (w : World) (hr : Kd.C k48 w A n l) (hc : n ≤ c) (hn20 : n ≤ 20) :
    Calls Try.prog 11 #[.agg #[.int .i64 a0, .int .i64 a1, .int .i64 a2, .int .i64 a3, .int .i64 a4, .int .u64 a5, .int .i64 a6, .int .i64 a7, .int .i64 a8, .int .u64 a9, .slice A n c]] w fun e w' => ∃ E d, e = .returned (.agg #[.int .i64 a0, .int .i64 a1, .int .i64 a2, .int .i64 a3, .int .i64 a4, .int .u64 a5, .int .i64 a6, .int .i64 a7, .int .i64 a8, .int .u64 a9, .slice E n d]) ∧ Kd.C k49 w' E n (l.map to49) ∧ n ≤ d ∧ Below w.heap.size w w' := by
  have HR := Aside0.mk hr
  have HN := Aside0.mk hn
  clear hr hn
  go_enter Try.func11, Try.ntmps11
  go_wp2
  obtain ⟨wb, hwb⟩ : ∃ wb, wb = (w.alloc (.cells #[.int .i64 a0, .int .i64 a1, .int .i64 a2, .int .i64 a3, .int .i64 a4, .int .u64 a5, .int .i64 a6, .int .i64 a7, .int .i64 a8, .int .u64 a9, .slice A n c] 26)).alloc (.cells #[.int .i64 0, .int .i64 0, .int .i64 0, .int .i64 0, .int .i64 0, .int .u64 0, .int .i64 0, .int .i64 0, .int .i64 0, .int .u64 0, .slice none 0 0] 30) := ⟨_, rfl⟩
  obtain ⟨we, hwe⟩ : ∃ we, we = wb.alloc (.cells #[.int .i64 a0, .int .i64 a1, .int .i64 a2, .int .i64 a3, .int .i64 a4, .int .u64 a5, .int .i64 a6, .int .i64 a7, .int .i64 a8, .int .u64 a9, .slice none 0 0] 30) := ⟨_, rfl⟩
  have HP := Aside0.mk (show we.heap[wb.heap.size]? = some (.cells #[.int .i64 a0, .int .i64 a1, .int .i64 a2, .int .i64 a3, .int .i64 a4, .int .u64 a5, .int .i64 a6, .int .i64 a7, .int .i64 a8, .int .u64 a9, .slice none 0 0] 30 (0, 0)) by rw [hwe]; exact blk_new wb _)
  have HG := Aside0.mk (show wb.heap[w.heap.size]? = some (.cells #[.int .i64 a0, .int .i64 a1, .int .i64 a2, .int .i64 a3, .int .i64 a4, .int .u64 a5, .int .i64 a6, .int .i64 a7, .int .i64 a8, .int .u64 a9, .slice A n c] 26 (0, 0)) by rw [hwb]; exact heap_alloc2_old w _ _)
  have HZ := Aside0.mk (show wb.heap[w.heap.size + 1]? = some (.cells #[.int .i64 0, .int .i64 0, .int .i64 0, .int .i64 0, .int .i64 0, .int .u64 0, .int .i64 0, .int .i64 0, .int .i64 0, .int .u64 0, .slice none 0 0] 30 (0, 0)) by rw [hwb]; exact heap_alloc2_new w _ _)
  have HBb := Aside0.mk (show Below w.heap.size w wb by rw [hwb]; exact below_alloc (below_alloc (Below.refl _ _) _) _)
  have HBe := Aside0.mk (show Below wb.heap.size wb we by rw [hwe]; exact below_alloc (Below.refl _ _) _)
  have hsz : wb.heap.size = w.heap.size + 1 + 1 := by rw [hwb]; simp
  have HSZ := Aside0.mk hsz
  have hs2 : w.heap.size + 2 = wb.heap.size := by omega
  rw [← hwb, ← hwe]
  (try rw [show w.heap.size + 1 + 1 = wb.heap.size from hsz.symm])
  (try rw [hs2])
  clear hwb hwe hsz hs2
  obtain ⟨gP, hgP⟩ : ∃ gP, wb.heap.size = gP := ⟨_, rfl⟩
  rw [hgP] at HP HSZ ⊢
  have HGP := Aside0.mk hgP
  clear hgP
  go_loopw [30] (fun i wr => MkRel wb gP #[.int .i64 a0, .int .i64 a1, .int .i64 a2, .int .i64 a3, .int .i64 a4, .int .u64 a5, .int .i64 a6, .int .i64 a7, .int .i64 a8, .int .u64 a9] l n i wr) (fun i _ => n - (intOf i).toNat)
  case atStart => exact ⟨0, _, Nat.zero_le _, rfl, HP.out, World.ownsRow_nil _ _ _ _, HBe.out⟩
  case round =>
    clear HP HBe
    obtain ⟨k, v, hk, rfl, hP, hO, hB⟩ := hrel
    have HP := Aside0.mk hP
    have HO := Aside0.mk hO
    have HB := Aside0.mk hB
    clear hP hO hB
    by_cases hlt : k < n
    · have hlt2 : (k : Int) < n := by omega
      obtain ⟨ad, hA, h0, h1⟩ := at_T48 HR.out (k : Int) (by omega) (by omega)
      have hent := entC_take l k (by have := HN.out; omega)
      obtain ⟨e, he⟩ : ∃ e, rd_T48 l (k : Int) = e := ⟨_, rfl⟩
      rw [he] at h0 h1 hent
      rw [Int.toNat_natCast] at h0 h1
      subst hA
      have hbw := HBb.out.trans (HB.out.mono HBb.out.size)
      replace h0 := (hbw.cell (World.block_lt_of_cell? w _ h0)).trans h0
      replace h1 := (hbw.cell (World.block_lt_of_cell? w _ h1)).trans h1
      have f10 : wr.cell? ⟨gP, 10, none⟩ = some v := (blk_cell HP.out 10).trans rfl
      have lgp : gP < wr.heap.size := blk_lt HP.out
      have HENT := Aside0.mk hent
      have HLG := Aside0.mk lgp
      clear hent he hbw
      go_wp2_with (at_builtin; go_loud (refine append_49 (w1 := wb) (b := gP + 1) (k := k) (cs := entC (l.take k)) rfl _ _ rfl v rfl ((HO.out.alloc _).alloc _) ((HB.out.alloc HB.out.size _).alloc (by have := HB.out.size; simp; omega) _) (wr.heap.size + 1) rfl (heap_alloc2_new wr _ _) (by have := HGP.out; omega) (by have := HLG.out; simp; omega) (by omega) ?_; intro g3 c3 w3 ho hb hq; have hq3 : w3.heap[gP]? = some (.cells (#[.int .i64 a0, .int .i64 a1, .int .i64 a2, .int .i64 a3, .int .i64 a4, .int .u64 a5, .int .i64 a6, .int .i64 a7, .int .i64 a8, .int .u64 a9].push v) 30 (0, 0)) := (hq gP (by omega)).trans (blk_alloc (blk_alloc HP.out _) _); have q10 : w3.cell? ⟨gP, 10, none⟩ = some v := (blk_cell hq3 10).trans rfl; have qz := blk_frozen hq3 10; have HO3 := Aside0.mk ho; have HB3 := Aside0.mk hb; have HQ3 := Aside0.mk hq3; clear ho hb hq hq3))
      refine ⟨⟨k + 1, _, by omega, by go_num, blk_set HQ3.out 10 _, ?_, below_set HB3.out (by have := HGP.out; omega)⟩, by have hq := hlt; simp only [intOf]; omega⟩
      rw [HENT.out]
      exact own_move HO3.out (fun j hj => Below.heap_setCell _ _ _ _ (show j ≠ gP from fun e => by have := own_base HO3.out j hj; omega))
    · obtain rfl : n = k := by omega
      have hO := HO.out
      rw [List.take_of_length_le (by have := HN.out; omega)] at hO
      have hR := R49 hO HN.out
      obtain ⟨E, d, rfl, hle, hC⟩ := Kd.R_reads hR
      have hPP := HP.out
      rw [List.length_map, HN.out] at hle hC hPP hR hO
      have HP' := Aside0.mk hPP
      clear hPP
      obtain ⟨f0, f1, f2, f3, f4, f5, f6, f7, f8, f9, f10⟩ := cells11 HP'.out
      have hZ := blk_below HZ.out HB.out
      obtain ⟨z0, z1, z2, z3, z4, z5, z6, z7, z8, z9, z10⟩ := cells11 hZ
      have fz : ∀ i, wr.frozen? ⟨w.heap.size + 1, i, none⟩ = false := fun i => blk_frozen hZ i
      have HC := Aside0.mk hR
      have HLE := Aside0.mk hle
      have HBF := Aside0.mk (HBb.out.trans (HB.out.mono HBb.out.size))
      have HO2 := Aside0.mk hO
      clear hO hR hC hZ hle hlt hk
      go_wp2
      refine bodyPost_ret (v := .agg #[.int .i64 a0, .int .i64 a1, .int .i64 a2, .int .i64 a3, .int .i64 a4, .int .u64 a5, .int .i64 a6, .int .i64 a7, .int .i64 a8, .int .u64 a9, .slice E n d]) (by simp [results, Try.results11, go_sem, z0, z1, z2, z3, z4, z5, z6, z7, z8, z9, z10]) rfl ?_
      clear f0 f1 f2 f3 f4 f5 f6 f7 f8 f9 f10 z0 z1 z2 z3 z4 z5 z6 z7 z8 z9 z10 fz
      refine ⟨E, d, rfl, ?_, HLE.out, ?_⟩
      · refine C49 (b := gP + 1) (d := d) (own_move HO2.out (fun j hj => ?_)) HN.out
        have hne : j ≠ w.heap.size + 1 := by have := own_base HO2.out j hj; have := HSZ.out; omega
        repeat (with_reducible first | rfl | refine (Below.heap_setCell _ _ _ _ hne).trans ?_)
      · repeat (with_reducible first | exact HBF.out | (refine below_set ?_ (Nat.le_succ _)))
end Go.Proofs.Ytldiipomcenbkaa.Qw
