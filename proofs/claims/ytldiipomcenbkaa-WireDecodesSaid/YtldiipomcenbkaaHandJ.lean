/- The document's Decode, by hand. -/
import Derived.Test.YtldiipomcenbkaaHandI
import Derived.Test.YtldiipomcenbkaaHandV
import Derived.BigRegion
import Derived.Deep.RegionLaw
namespace Go.Proofs.Ytldiipomcenbkaa.Qw
open Go.RowKit Go.Proofs.YtldiipomcenbkaaW.PrintWords Go.Proofs.YtldiipomcenbkaaW.PrintLast Go.Proofs.YtldiipomcenbkaaW.PrintMore
open HandS (Bytes byte_at add_block)
set_option linter.unusedVariables false
set_option linter.unusedSimpArgs false
attribute [local go_sem ↓] Go.wp_at_zero Go.wp_at_succ
set_option maxRecDepth 100000 in
set_option maxHeartbeats 8000000 in
theorem rdecode_err (a : Option Addr) (cap len : Nat) (l : List Nat) (w : World) (hl : Bytes w a len l) (hc : len ≤ cap) (F : Nat) (hF : frameN l = F) (h0 : F ≠ 0) :
    Calls Try.prog 19 #[.slice a len cap] w fun e w' => e = .returned (.tuple #[zeroP, .int .i64 F]) ∧ Below w.heap.size w w' := by
  have HL := Aside0.mk hl
  have HF := Aside0.mk hF
  have h0i : ((F : Int) != 0) = true := bne_iff_ne.mpr (by omega)
  clear hl hF h0
  go_enter Try.func19, Try.ntmps19
  go_wp2_with (go_at_call 34; go_loud (refine (rframe_c a cap len l _ (HL.out.below (Below.alloc (Below.refl _ _) (Nat.le_refl _) _)) hc).mono ?_; rintro e w1 ⟨rfl, hb⟩; rw [HF.out]; have HG := Aside0.mk (blk_below (blk_new w _) hb); have HB1 := Aside0.mk (below_step (below_alloc (Below.refl _ _) _) hb); clear hb; obtain ⟨f0, f1, f2, f3, f4, f5, f6, f7, f8, f9, f10⟩ := cells11 HG.out; have gl := World.block_lt_of_cell? w1 _ f1; dsimp only at gl; have fz : ∀ i, w1.frozen? ⟨w.heap.size, i, none⟩ = false := fun i => blk_frozen HG.out i))
  refine bodyPost_ret (v := .tuple #[zeroP, .int .i64 F]) (by unfold zeroP; simp [results, Try.results19, go_sem, f0, f1, f2, f3, f4, f5, f6, f7, f8, f9, f10]) rfl ⟨rfl, ?_⟩
  repeat (with_reducible first | exact HB1.out | (refine below_set ?_ (Nat.le_refl _)))
section
variable {ops : Array Oper} {o : Oper} {a : Act} {Q : Exit → Act → World → Prop} {K : Act → World → Prop} {E : Prop} {w1 W : World}
theorem append_ent49 {k : Nat} {cs : List Value} {x y : Int} (hgd : o.guard = none) (s z : Operand) (ho : o.op = .call { callee := .builtin .append, args := #[s, z], argTypes := #[28, 28] })
    (gP : Nat) (v : Value) (hs : a.eval s = v) (hO : W.ownsRow (gP + 1) 49 2 v k cs) (hB : Below w1.heap.size w1 W) (q : Nat) (hx : a.eval z = .slice (some ⟨q, 0, none⟩) 1 1) (hq : W.heap[q]? = some (.cells #[.int .i64 x, .int .i64 y] 49 (0, 0)))
    (hge : w1.heap.size ≤ gP) (hgl : gP < W.heap.size) (hk : k ≤ 300) (h : ∀ g cap w', w'.ownsRow (gP + 1) 49 2 (.slice (some ⟨g, 0, none⟩) (k + 1) cap) (k + 1) (cs ++ [.int .i64 x, .int .i64 y]) → Below w1.heap.size w1 w' → w'.heap[gP]? = W.heap[gP]? → K (a.put o.dst (.slice (some ⟨g, 0, none⟩) (k + 1) cap)) w') :
    if Region.wanted o (yielded ops a.tmps) = true then Oper.wp Try.prog o a W K Q else E := by
  obtain ⟨i0, hi, hzz⟩ := Option.map_eq_some_iff.1 info49
  simp only [Prod.mk.injEq] at hzz
  obtain ⟨hz0, hz1, hz2⟩ := hzz
  refine step_append_lies W hgd s z 28 ho (gP + 1) 49 i0 _ 2 16 Try.underlying28 hi hz0 hz1 hz2 rfl (by decide) v k cs hs hO ⟨q, 0, none⟩ 1 1 [.int .i64 x, .int .i64 y] hx rfl (World.news_of_block hq) (fun u hu => ?_) (by decide) (by unfold maxLen; omega) (by omega) (by omega) _ rfl ?_
  · simp only [List.mem_cons, List.not_mem_nil, or_false] at hu
    rcases hu with rfl | rfl <;> rfl
  · intro g cap w' hown' hgrow hat hlt
    exact h g cap w' hown' (hB.grown hgrow hB.size (fun j hj => by have := own_base hO j hj; omega)) (hgrow.block gP hgl (fun e => by have := own_base hO gP e.symm; omega))
end

/-- Block g holds the packet so far; of its entries k are there. -/
def PsRel49 (w1 : World) (g : Nat) (P : Array Value) (l : List Nat) (m : Nat) (i : Value) (wr : World) : Prop :=
  ∃ (k : Nat) (v : Value), k ≤ m ∧ i = .int .i64 k ∧ wr.heap[g]? = some (.cells (P.push v) 30 (0, 0)) ∧ wr.ownsRow (g + 1) 49 2 v k (entCells l k) ∧ Below w1.heap.size w1 wr
theorem ents_reps49 (w : World) (b : Nat) (ok : Nat → Prop) (xs : List S48) : Reps (k49.M w b ok) 2 (xs.map to49) (xs.flatMap fun x => [.int .i64 x.f0, .int .i64 x.f1]) := by
  induction xs with
  | nil => exact Reps.none _ _
  | cons x xs ih => exact Reps.c2 (k49_mkM w b ok (to49 x)) ih
theorem ents_R49 {w : World} {g k : Nat} {v : Value} {l : List Nat} (h : w.ownsRow (g + 1) 49 2 v k (entCells l k)) (hk : l.getD 76 0 = k) : Kd.R k49 49 w (g + 1) (fun _ => True) v ((secOf l).map to49) := by
  have hl : ((secOf l).map to49).length = k := by unfold secOf; rw [List.length_map, List.length_map, List.length_range, hk]
  have he : entCells l k = (secOf l).flatMap fun x => [.int .i64 x.f0, .int .i64 x.f1] := by unfold entCells secOf; rw [hk]
  rw [he, ← hl] at h
  exact ⟨fun _ _ => trivial, _, h, ents_reps49 w (g + 1) _ (secOf l)⟩
/-- What the document's Decode answers of bytes whose frame is right. -/
def DecPost49 (r : Bool) (l : List Nat) (w : World) (e : Ending) (w' : World) : Prop :=
  match r with
  | true => ∃ v, e = .returned (.tuple #[.agg #[.int .i64 (l.getD 3 0 : Nat), .int .i64 (i64 (fld l 0)), .int .i64 (i64 (fld l 1)), .int .i64 (i64 (fld l 2)), .int .i64 (i64 (fld l 3)), .int .u64 (fld l 4 : Nat), .int .i64 (i64 (fld l 5)), .int .i64 (i64 (fld l 6)), .int .i64 (i64 (fld l 7)), .int .u64 (fld l 8 : Nat), v], .int .i64 0]) ∧ Kd.R k49 49 w' w.heap.size (fun _ => True) v ((secOf l).map to49) ∧ Below w.heap.size w w'
  | false => e = .returned (.tuple #[zeroP, .int .i64 10]) ∧ Below w.heap.size w w'
theorem i64_neg {n : Nat} (h : 9223372036854775807 < n) (h2 : n < 18446744073709551616) : i64 n < 0 := by
  unfold i64
  rw [HandC.wrap_i64]
  omega
theorem fld_lt {l : List Nat} (h : ∀ x ∈ l, x < 256) (i : Nat) : fld l i < 18446744073709551616 := by
  unfold fld num8
  have h1 := fold8_lt ((l.drop (4 + 8 * i)).take 8) (fun x hx => h x (List.mem_of_mem_drop (List.mem_of_mem_take hx)))
  have h2 : 256 ^ ((l.drop (4 + 8 * i)).take 8).length ≤ 256 ^ 8 := Nat.pow_le_pow_right (by decide) (by rw [List.length_take]; omega)
  exact Nat.lt_of_lt_of_le h1 h2
theorem wrong_fld {l : List Nat} (h : ∀ x ∈ l, x < 256) (j : Nat) (hj : j < 9) (h4 : j ≠ 4) (h8 : j ≠ 8) (hb : 9223372036854775807 < fld l j) : rightD l = false := by
  have hn := i64_neg hb (fld_lt h j)
  cases e : rightD l with
  | false => rfl
  | true =>
    exfalso
    unfold rightD at e
    have R := right_of e
    have t0 := R.f1; have t1 := R.e0; have t2 := R.c0; have t3 := R.m0; have t5 := R.o0; have t6 := R.b0; have t7 := R.g0
    match j, hj with
    | 0, _ => omega
    | 1, _ => omega
    | 2, _ => omega
    | 3, _ => omega
    | 4, _ => exact h4 rfl
    | 5, _ => omega
    | 6, _ => omega
    | 7, _ => omega
    | 8, _ => exact h8 rfl
theorem wrong_ent {l : List Nat} (h : ∀ x ∈ l, x < 256) (k : Nat) (hk : k < l.getD 76 0) (hb : 9223372036854775807 < num8 (l.drop (77 + 9 * k))) : rightD l = false := by
  have hlt : num8 (l.drop (77 + 9 * k)) < 18446744073709551616 := by
    unfold num8
    have h1 := fold8_lt ((l.drop (77 + 9 * k)).take 8) (fun x hx => h x (List.mem_of_mem_drop (List.mem_of_mem_take hx)))
    have h2 : 256 ^ ((l.drop (77 + 9 * k)).take 8).length ≤ 256 ^ 8 := Nat.pow_le_pow_right (by decide) (by rw [List.length_take]; omega)
    exact Nat.lt_of_lt_of_le h1 h2
  have hn := i64_neg hb hlt
  cases e : rightD l with
  | false => rfl
  | true =>
    exfalso
    unfold rightD at e
    have R := right_of e
    have := R.sec (entAt l k) (List.mem_map.2 ⟨k, List.mem_range.2 hk, rfl⟩)
    have h0 : (entAt l k).f0 = i64 (num8 (l.drop (77 + 9 * k))) := rfl
    omega
end Go.Proofs.Ytldiipomcenbkaa.Qw
