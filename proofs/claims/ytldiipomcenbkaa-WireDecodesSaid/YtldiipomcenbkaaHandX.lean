/- A packet's bytes, by hand. -/
import Derived.Test.YtldiipomcenbkaaHandR
import Derived.Test.YtldiipomcenbkaaHandS
namespace Go.Proofs.Ytldiipomcenbkaa.Qw
open Go.RowKit Go.Proofs.YtldiipomcenbkaaW.PrintWords Go.Proofs.YtldiipomcenbkaaW.PrintLast Go.Proofs.YtldiipomcenbkaaW.PrintMore
set_option linter.unusedVariables false
set_option linter.unusedSimpArgs false
def enc8 (l : List Nat) : List Value := encs (Value.int .u8) (iz l)
theorem enc8_length (l : List Nat) : (enc8 l).length = l.length := by unfold enc8 encs; rw [List.length_map, iz_length]
theorem enc8_append (l m : List Nat) : enc8 (l ++ m) = enc8 l ++ enc8 m := by unfold enc8 encs; rw [iz_append, List.map_append]
theorem own_row {w0 w : World} {v : Value} {xs : List Nat} (h : Own w0 w v xs) : w.ownsRow w0.heap.size 5 1 v xs.length (enc8 xs) := by
  have := Kd.own_of_R h
  rw [iz_length] at this
  exact this
theorem row_own {w0 w : World} {v : Value} {xs : List Nat} (h : w.ownsRow w0.heap.size 5 1 v xs.length (enc8 xs)) : Own w0 w v xs :=
  Kd.R_of_own (h1 := fun _ => rfl) (by rw [iz_length]; exact h) (fun _ _ => trivial)
theorem Own.keep {w0 w w' : World} {v : Value} {xs : List Nat} (h : Own w0 w v xs) (hk : ∀ k, v.ownBlock = some k → w'.heap[k]? = w.heap[k]?) : Own w0 w' v xs :=
  row_own (own_move (own_row h) hk)
theorem Own.below {w0 w w' : World} {v : Value} {xs : List Nat} (h : Own w0 w v xs) (hb : Below w.heap.size w w') : Own w0 w' v xs := Kd.R_below h hb
theorem Own.alloc {w0 w : World} {v : Value} {xs : List Nat} (h : Own w0 w v xs) (o : Obj) : Own w0 (w.alloc o) v xs := Kd.R_alloc h o
theorem Own.drew {w0 w : World} {v : Value} {xs : List Nat} (h : Own w0 w v xs) : Own w0 w.drew v xs := Kd.R_drew h
theorem Own.lt {w0 w : World} {v : Value} {xs : List Nat} (h : Own w0 w v xs) {k : Nat} (hk : v.ownBlock = some k) : w0.heap.size ≤ k ∧ k < w.heap.size := ⟨own_base (own_row h) k hk, own_lt (own_row h) k hk⟩
theorem own_four (w0 w : World) (hs : w0.heap.size ≤ w.heap.size) (a b c d : Nat) : Own w0 (w.alloc (.cells #[.int .u8 a, .int .u8 b, .int .u8 c, .int .u8 d] 5)) (.slice (some ⟨w.heap.size, 0, none⟩) 4 4) [a, b, c, d] :=
  row_own ⟨rfl, .inr ⟨w.heap.size, 4, _, rfl, hs, heap_alloc_new w _, Nat.le_refl _, by decide, rfl, rfl⟩⟩
/-- A row of one's own is read as bytes. -/
theorem own_bytes {w0 w : World} {v : Value} {xs : List Nat} (h : Own w0 w v xs) (hl : ∀ x ∈ xs, x < 256) : ∃ (a : Option Addr) (c : Nat), v = .slice a xs.length c ∧ HandS.Bytes w a xs.length xs ∧ ∀ ad, a = some ad → 0 < xs.length → v.ownBlock = some ad.block := by
  rcases (own_row h).2 with ⟨rfl, h0⟩ | ⟨g, cap, cur, rfl, hb, hg, h1, h2, h3, h4⟩
  · obtain rfl : xs = [] := List.eq_nil_of_length_eq_zero h0
    exact ⟨none, 0, rfl, ⟨rfl, by decide, hl, fun hp => absurd hp (by decide)⟩, fun ad e => by cases e⟩
  · refine ⟨some ⟨g, 0, none⟩, cap, rfl, ⟨rfl, by unfold maxLen at h2; omega, hl, fun _ => ⟨_, rfl, fun i hi => ?_⟩⟩, fun ad e _ => by cases e; rfl⟩
    refine (own_row h).cells (g := g) rfl i _ ?_
    unfold enc8 encs iz
    rw [List.getElem?_map, List.getElem?_map, List.getElem?_eq_getElem hi, List.getD_eq_getElem?_getD, List.getElem?_eq_getElem hi]
    rfl
section
variable {ops : Array Oper} {rest : List Oper} {o : Oper} {a : Act} {Q : Exit → Act → World → Prop} {K : Act → World → Prop} {E : Prop} {w0 W : World}
theorem append_own {v : Value} {xs m : List Nat} (hgd : o.guard = none) (s x : Operand) (ho : o.op = .call { callee := .builtin .append, args := #[s, x], argTypes := #[32, 32] })
    (hs : a.eval s = v) (hO : Own w0 W v xs) (hB : Below w0.heap.size w0 W) (ad : Addr) (n c : Nat) (hx : a.eval x = .slice (some ad) n c) (hn : m.length = n) (hm : ∀ j u, (enc8 m)[j]? = some u → W.cell? (ad.add j) = some u) (h0 : 0 < n) (hlen : xs.length + n ≤ 10000)
    (h : ∀ v' w', Own w0 w' v' (xs ++ m) → Below w0.heap.size w0 w' → (∀ k, k < W.heap.size → some k ≠ v.ownBlock → w'.heap[k]? = W.heap[k]?) → wpList Try.prog ops Q rest (a.put o.dst v') w') : wpList Try.prog ops Q (o :: rest) a W := by
  obtain ⟨i0, hi, hzz⟩ := Option.map_eq_some_iff.1 info5
  simp only [Prod.mk.injEq] at hzz
  obtain ⟨hz0, hz1, hz2⟩ := hzz
  refine wpList_append_lies W hgd s x 32 ho w0.heap.size 5 i0 _ 1 1 Try.underlying32 hi hz0 hz1 hz2 rfl (by decide) v xs.length (enc8 xs) hs (own_row hO) ad n c (enc8 m) hx (by rw [enc8_length]; omega) hm (fun u hu => ?_) h0 (by unfold maxLen; omega) (by omega) hB.size _ rfl ?_
  · unfold enc8 encs at hu
    obtain ⟨y, _, rfl⟩ := List.mem_map.1 hu
    rfl
  · intro g cap w' hown' hgrow hat hlt
    refine h _ w' (row_own ?_) (hB.grown hgrow hB.size (fun k hk => (hO.lt hk).1)) (fun k hk hne => hgrow.block k hk (fun e => hne e))
    rw [List.length_append, hn, enc8_append]
    exact hown'
theorem append_own_step {v : Value} {xs m : List Nat} (hgd : o.guard = none) (s x : Operand) (ho : o.op = .call { callee := .builtin .append, args := #[s, x], argTypes := #[32, 32] })
    (hs : a.eval s = v) (hO : Own w0 W v xs) (hB : Below w0.heap.size w0 W) (ad : Addr) (n c : Nat) (hx : a.eval x = .slice (some ad) n c) (hn : m.length = n) (hm : ∀ j u, (enc8 m)[j]? = some u → W.cell? (ad.add j) = some u) (h0 : 0 < n) (hlen : xs.length + n ≤ 10000)
    (h : ∀ v' w', Own w0 w' v' (xs ++ m) → Below w0.heap.size w0 w' → (∀ k, k < W.heap.size → some k ≠ v.ownBlock → w'.heap[k]? = W.heap[k]?) → K (a.put o.dst v') w') :
    if Region.wanted o (yielded ops a.tmps) = true then Oper.wp Try.prog o a W K Q else E := by
  obtain ⟨i0, hi, hzz⟩ := Option.map_eq_some_iff.1 info5
  simp only [Prod.mk.injEq] at hzz
  obtain ⟨hz0, hz1, hz2⟩ := hzz
  refine step_append_lies W hgd s x 32 ho w0.heap.size 5 i0 _ 1 1 Try.underlying32 hi hz0 hz1 hz2 rfl (by decide) v xs.length (enc8 xs) hs (own_row hO) ad n c (enc8 m) hx (by rw [enc8_length]; omega) hm (fun u hu => ?_) h0 (by unfold maxLen; omega) (by omega) hB.size _ rfl ?_
  · unfold enc8 encs at hu
    obtain ⟨y, _, rfl⟩ := List.mem_map.1 hu
    rfl
  · intro g cap w' hown' hgrow hat hlt
    refine h _ w' (row_own ?_) (hB.grown hgrow hB.size (fun k hk => (hO.lt hk).1)) (fun k hk hne => hgrow.block k hk (fun e => hne e))
    rw [List.length_append, hn, enc8_append]
    exact hown'
end
theorem put_k (xs : List Nat) (n : Nat) (hl : xs.length ≤ 1000) (w0 w : World) (hB : Below w0.heap.size w0 w) (u : Value) (ho : Own w0 w u xs) :
    Calls Try.prog 20 #[u, .int .u64 n] w fun e w' => ∃ v, e = .returned v ∧ Own w0 w' v (xs ++ e8 n) ∧ Below w0.heap.size w0 w' ∧ (∀ k, k < w.heap.size → some k ≠ u.ownBlock → w'.heap[k]? = w.heap[k]?) ∧ (∀ k, v.ownBlock = some k → some k = u.ownBlock ∨ w.heap.size ≤ k) := by
  have ho2 : Kd.R (Kd.int .u8) 5 w w0.heap.size (fun k => some k = u.ownBlock) u (iz xs) := Kd.R_mono (Kd.R_tight2 rfl ho) (fun _ h => h.1)
  exact (wire_put.calls 9 (fun k => some k = u.ownBlock) u (iz xs) n (iz (xs ++ e8 n)) w0 w hB ho2 (put_f xs n hl)).mono fun e w' ⟨v, h1, h2, h3, h4⟩ => ⟨v, h1, Kd.R_mono h2 (fun _ _ => trivial), h3, fun k hk hne => h4.2 k hk hne, fun k hk => h2.1 k hk⟩
theorem e8_length (n : Nat) : (e8 n).length = 8 := rfl
theorem e8_lt (n : Nat) : ∀ x ∈ e8 n, x < 256 := by
  intro x hx
  simp only [e8, List.mem_cons, List.not_mem_nil, or_false] at hx
  omega
theorem cells11 {w : World} {g t : Nat} {x0 x1 x2 x3 x4 x5 x6 x7 x8 x9 x10 : Value} (h : w.heap[g]? = some (.cells #[x0, x1, x2, x3, x4, x5, x6, x7, x8, x9, x10] t (0, 0))) :
    w.cell? ⟨g, 0, none⟩ = some x0 ∧ w.cell? ⟨g, 1, none⟩ = some x1 ∧ w.cell? ⟨g, 2, none⟩ = some x2 ∧ w.cell? ⟨g, 3, none⟩ = some x3 ∧ w.cell? ⟨g, 4, none⟩ = some x4 ∧ w.cell? ⟨g, 5, none⟩ = some x5 ∧ w.cell? ⟨g, 6, none⟩ = some x6 ∧ w.cell? ⟨g, 7, none⟩ = some x7 ∧ w.cell? ⟨g, 8, none⟩ = some x8 ∧ w.cell? ⟨g, 9, none⟩ = some x9 ∧ w.cell? ⟨g, 10, none⟩ = some x10 :=
  ⟨(blk_cell h 0).trans rfl, (blk_cell h 1).trans rfl, (blk_cell h 2).trans rfl, (blk_cell h 3).trans rfl, (blk_cell h 4).trans rfl, (blk_cell h 5).trans rfl, (blk_cell h 6).trans rfl, (blk_cell h 7).trans rfl, (blk_cell h 8).trans rfl, (blk_cell h 9).trans rfl, (blk_cell h 10).trans rfl⟩
/-- What is told of one, in nine bytes. -/
def ent (x : S48) : List Nat := e8 x.f0.toNat ++ [x.f1.toNat]
def nums (n1 n2 n3 n4 n5 n6 n7 n8 n9 : Nat) : List Nat := e8 n1 ++ e8 n2 ++ e8 n3 ++ e8 n4 ++ e8 n5 ++ e8 n6 ++ e8 n7 ++ e8 n8 ++ e8 n9
def body (n0 n1 n2 n3 n4 n5 n6 n7 n8 n9 : Nat) (l : List S48) : List Nat := [71, 86, 1, n0] ++ nums n1 n2 n3 n4 n5 n6 n7 n8 n9 ++ [l.length] ++ l.flatMap ent
def sum16 (l : List Nat) : List Nat := [HandC.crc 0 l / 256, HandC.crc 0 l % 256]
def enc (n0 n1 n2 n3 n4 n5 n6 n7 n8 n9 : Nat) (l : List S48) : List Nat := body n0 n1 n2 n3 n4 n5 n6 n7 n8 n9 l ++ sum16 (body n0 n1 n2 n3 n4 n5 n6 n7 n8 n9 l)
end Go.Proofs.Ytldiipomcenbkaa.Qw
