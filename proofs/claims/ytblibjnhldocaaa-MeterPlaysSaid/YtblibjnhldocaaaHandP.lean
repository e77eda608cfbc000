/- An array of sixteen whole numbers of the call's own. -/
import Derived.Test.YtblibjnhldocaaaHandD
import Derived.Laws.PanicsMore
import Derived.Laws.Append
namespace Go.Proofs.Ytblibjnhldocaaa.HandM
open Go.RowKit
set_option linter.unusedVariables false
set_option linter.unusedSimpArgs false
/-- Block q holds the numbers cs. -/
structure Ar (w : World) (q : Nat) (cs : List Int) : Prop where
  len : cs.length = 16
  lt : q < w.heap.size
  cell : ∀ k, k < 16 → w.cell? ⟨q, k, none⟩ = some (.int .i64 (cs.getD k 0))
  free : ∀ k, w.frozen? ⟨q, k, none⟩ = false
theorem Ar.near {w w' : World} {q b2 : Nat} {cs : List Int} (h : Ar w q cs) (n : Near b2 w w') (hne : q ≠ b2) : Ar w' q cs := by
  have hb := n.block q h.lt hne
  exact ⟨h.len, Nat.lt_of_lt_of_le h.lt n.size, fun k hk => (World.cell?_of_block (w := w) (a := ⟨q, k, none⟩) hb).trans (h.cell k hk), fun k => (World.frozen?_of_block (w := w) (a := ⟨q, k, none⟩) hb).trans (h.free k)⟩
theorem Ar.alloc {w : World} {q : Nat} {cs : List Int} (h : Ar w q cs) (o : Obj) : Ar (w.alloc o) q cs := h.near (Near.alloc w.heap.size w o) (by have := h.lt; omega)
theorem Ar.set {w : World} {q : Nat} {cs : List Int} (h : Ar w q cs) (j : Nat) (hj : j < 16) (y : Int) : Ar (w.setCell ⟨q, j, none⟩ (.int .i64 y)) q (cs.set j y) := by
  refine ⟨by rw [List.length_set]; exact h.len, by rw [World.size_setCell]; exact h.lt, fun k hk => ?_, fun k => by rw [World.frozen?_setCell]; exact h.free k⟩
  rw [getD_set _ _ _ _ (by rw [h.len]; exact hj)]
  by_cases e : j = k
  · subst e
    rw [if_pos rfl]
    exact World.cell?_setCell_same _ _ _ (h.cell j hj)
  · rw [if_neg e]
    exact (World.cell?_setCell_other _ _ _ _ (other e)).trans (h.cell k hk)
theorem idx_arr (cs : List Int) (k : Nat) (hk : k < 16) (hl : cs.length = 16) (w : World) : (Instr.index 42 (.agg (cs.map (Value.int .i64)).toArray) (.int .i64 k)).run Try.prog w = .ok (.int .i64 (cs.getD k 0)) w := by
  have hn : 0 ≤ (k : Int) ∧ (k : Int) < 16 := by omega
  have hc : Try.prog.cellsOf 3 = 1 := by kernel_rfl
  have hu : Try.prog.underlying 42 = some (.array 16 3) := Try.underlying42
  simp [Instr.index, run_underlying hu, asIntOf, hn, go_sem]
  rw [if_pos hk, List.getElem?_eq_getElem (by omega)]
  rfl
/-- Cells that lie one behind the other are loaded as one value. -/
theorem run_load_list {P : Program} (w : World) (A : Addr) (ty : TypeId) (vs : List Value) (d : TypeDesc) (hc : ∀ j v, vs[j]? = some v → w.cell? (A.add j) = some v)
    (hu : P.underlying ty = some d) (hd : (match d with | .struct _ | .array _ _ => true | _ => false) = true) (hi : (P.info? ty).map (·.size) = some vs.length) : (loadVar ty A).run P w = .ok (.agg vs.toArray) w := by
  have hl : (loadCells A vs.length).run P w = .ok vs.toArray w := run_loadCells_list (P := P) w A vs hc
  cases hq : P.info? ty with
  | none => simp [hq] at hi
  | some i =>
    have hs : i.size = vs.length := by simpa [hq] using hi
    have hagg : (isAgg ty).run P w = .ok true w := by
      unfold isAgg
      rw [Sem.run_bind, run_underlying hu w]
      cases d <;> simp_all
    simp [loadVar, Sem.run_bind, hagg, sizeOf, typeInfo, hq, hs, hl]
theorem load_list {P : Program} {ops : Array Oper} {rest : List Oper} {o : Oper} {a : Act} {w : World} {Q : Exit → Act → World → Prop} (hgd : o.guard = none) (ty : TypeId) (x : Operand) (ho : o.op = .load ty x)
    (A : Addr) (hx : a.eval x = .pointer (some A)) (vs : List Value) (d : TypeDesc) (hc : ∀ j v, vs[j]? = some v → w.cell? (A.add j) = some v)
    (hu : P.underlying ty = some d) (hd : (match d with | .struct _ | .array _ _ => true | _ => false) = true) (hi : (P.info? ty).map (·.size) = some vs.length)
    (h : wpList P ops Q rest (a.put o.dst (.agg vs.toArray)) w) : wpList P ops Q (o :: rest) a w :=
  wpList_plain hgd fun _ hK => by
    unfold Oper.wp execOp
    simp only [ho, hx, Instr.loadAt, Instr.sureAddr, Sem.run_bind, Sem.run_pure, Result.andThen_ok, run_load_list w A ty vs d hc hu hd hi]
    exact hK _ _ h
theorem add_off (g o j : Nat) : (⟨g, o, none⟩ : Addr).add j = ⟨g, o + j, none⟩ := by unfold Addr.add; split <;> simp_all
theorem Ar.list {w : World} {q : Nat} {cs : List Int} (h : Ar w q cs) : ∀ j v, (cs.map (Value.int .i64))[j]? = some v → w.cell? ((⟨q, 0, none⟩ : Addr).add j) = some v := by
  intro j v hv
  rw [add_off, Nat.zero_add]
  rw [List.getElem?_map] at hv
  have hj : j < 16 := by
    rcases Nat.lt_or_ge j 16 with g | g
    · exact g
    · rw [List.getElem?_eq_none (by rw [h.len]; exact g)] at hv
      cases hv
  rw [h.cell j hj, ← hv, List.getD_eq_getElem?_getD, List.getElem?_eq_getElem (by rw [h.len]; exact hj)]
  rfl
theorem Ar.new (w : World) : Ar (w.alloc (.cells #[.int .i64 0, .int .i64 0, .int .i64 0, .int .i64 0, .int .i64 0, .int .i64 0, .int .i64 0, .int .i64 0, .int .i64 0, .int .i64 0, .int .i64 0, .int .i64 0, .int .i64 0, .int .i64 0, .int .i64 0, .int .i64 0] 42)) w.heap.size zeros := by
  refine ⟨rfl, by simp, fun k hk => ?_, fun k => World.frozen?_alloc_new _ _ _ _⟩
  rw [World.cell?_alloc_new]
  have hk' : k = 0 ∨ k = 1 ∨ k = 2 ∨ k = 3 ∨ k = 4 ∨ k = 5 ∨ k = 6 ∨ k = 7 ∨ k = 8 ∨ k = 9 ∨ k = 10 ∨ k = 11 ∨ k = 12 ∨ k = 13 ∨ k = 14 ∨ k = 15 := by omega
  rcases hk' with rfl | rfl | rfl | rfl | rfl | rfl | rfl | rfl | rfl | rfl | rfl | rfl | rfl | rfl | rfl | rfl <;> rfl
theorem My.alloc {w0 w : World} {b : Nat} {cs : List Int} {hi cl rs : Int} (h : My w0 w b cs hi cl rs) (o : Obj) : My w0 (w.alloc o) b cs hi cl rs :=
  ⟨h.mt.alloc o, h.new, h.bel.alloc h.bel.size o⟩
end Go.Proofs.Ytblibjnhldocaaa.HandM
