/- The machine's side of meter, by hand: what each function of it does to a meter's cells, in one goroutine. -/
import Derived.Test.YtblibjnhldocaaaProg
import Derived.Below
import Derived.Tactics
import Derived.Tactics2
import Derived.Defers
import Derived.WalkKit
import Derived.KernelRfl
import Derived.RowKit3
import Derived.RowKit
import Derived.Laws.Pointers
import Derived.Laws.LoneSync
import Derived.Laws.NewBlocks
import Derived.RegionTactic
import Derived.RegionCalls
import Derived.ChangeAlike
import Derived.Deep.LoopGhost
import Derived.OwnWalk
import Derived.Deep.Cut
namespace Go.Proofs.Ytblibjnhldocaaa.HandM
open Go.RowKit
set_option linter.unusedVariables false
/-- A fact out of the walk's sight. -/
structure Aside0 (p : Prop) : Prop where
  out : p
set_option linter.unusedSimpArgs false

theorem load64 (a : Addr) (x : Int) (w : World) (h0 : w.cell? a = some (.int .i64 x)) :
    Calls Try.prog 21 #[.pointer (some a)] w fun e w' => e = .returned (.int .i64 x) ∧ w' = w := by
  have hl := run_call_load (P := Try.prog) Try.func29 (by kernel_rfl) (by kernel_rfl) (by kernel_rfl) .i64 (by kernel_rfl) h0
  go_enter Try.func21, Try.ntmps21
  go_wp2
  go_ret
  exact ⟨rfl, rfl⟩
theorem loadB (a : Addr) (x : Int) (w : World) (h0 : w.cell? a = some (.int .u32 x)) :
    Calls Try.prog 18 #[.pointer (some a)] w fun e w' => e = .returned (.bool (x != 0)) ∧ w' = w := by
  have hl := run_call_load (P := Try.prog) Try.func27 (by kernel_rfl) (by kernel_rfl) (by kernel_rfl) .u32 (by kernel_rfl) h0
  go_enter Try.func18, Try.ntmps18
  go_wp2
  go_ret
  exact ⟨rfl, rfl⟩
theorem cas64 (a : Addr) (x y : Int) (w : World) (h0 : w.cell? a = some (.int .i64 x)) (f0 : w.frozen? a = false) :
    Calls Try.prog 28 #[.pointer (some a), .int .i64 x, .int .i64 y] w fun e w' => e = .returned (.bool true) ∧ w' = w.setCell a (.int .i64 y) := by
  have hcas := run_call_cas_hit (P := Try.prog) Try.func34 (by kernel_rfl) (by kernel_rfl) (by kernel_rfl) .i64 (by kernel_rfl) (y := y) h0 f0
  go_enter Try.func28, Try.ntmps28
  go_wp2
  go_ret
  exact ⟨rfl, rfl⟩
theorem mark1 (p : Addr) (x n : Int) (w : World) (h0 : w.cell? p = some (.int .i64 n)) :
    Calls Try.prog 20 #[.int .i64 x, .pointer (some p)] w fun e w' => e = .returned (.int .i64 (max x n)) ∧ w' = w := by
  go_enter Try.func20, Try.ntmps20
  go_wp2
  all_goals (go_ret; refine ⟨?_, rfl⟩; show Ending.returned (.int .i64 _) = _; congr 2; omega)
theorem count1 (p : Addr) (x n : Int) (w : World) (h0 : w.cell? p = some (.int .i64 n)) (h1 : 0 ≤ x) (h2 : x ≤ 4611686018427387904) (h3 : 0 ≤ n) (h4 : n ≤ 4294967296) :
    Calls Try.prog 22 #[.int .i64 x, .pointer (some p)] w fun e w' => e = .returned (.int .i64 (min (x + n) 4611686018427387904)) ∧ w' = w := by
  go_enter Try.func22, Try.ntmps22
  go_wp2
  all_goals (go_ret; refine ⟨?_, rfl⟩; show Ending.returned (.int .i64 _) = _; congr 2; omega)
theorem raise_mark_up (a p : Addr) (x n y : Int) (w : World) (h0 : w.cell? a = some (.int .i64 x)) (f0 : w.frozen? a = false) (hp : w.cell? p = some (.int .i64 n)) (hy : max x n = y) (hne : (y == x) = false) :
    Calls Try.prog 19 #[.pointer (some a), .func (.func 20) #[] #[.pointer (some p)]] w fun e w' => e = .returned (.bool true) ∧ w' = w.setCell a (.int .i64 y) := by
  obtain ⟨w0, hw0⟩ : ∃ w0, w0 = w := ⟨_, rfl⟩
  subst hw0
  go_enter Try.func19, Try.ntmps19
  go_wp2
  go_loopw [4] (fun _ wr => wr = w0) (fun _ _ => 0)
  case atStart => rfl
  case round =>
    subst hrel
    go_wp2_with (first | (go_at_call 21; refine (load64 a x _ h0).mono ?_; rintro e w1 ⟨rfl, rfl⟩) | (go_at_call 20; refine (mark1 p x n _ hp).mono ?_; rintro e w1 ⟨rfl, rfl⟩; rw [hy]) | (go_at_call 28; refine (cas64 a x y _ h0 f0).mono ?_; rintro e w1 ⟨rfl, rfl⟩))
    go_ret
    exact ⟨rfl, rfl⟩
theorem raise_mark_low (a p : Addr) (x n : Int) (w : World) (h0 : w.cell? a = some (.int .i64 x)) (hp : w.cell? p = some (.int .i64 n)) (hy : max x n = x) :
    Calls Try.prog 19 #[.pointer (some a), .func (.func 20) #[] #[.pointer (some p)]] w fun e w' => e = .returned (.bool false) ∧ w' = w := by
  obtain ⟨w0, hw0⟩ : ∃ w0, w0 = w := ⟨_, rfl⟩
  subst hw0
  go_enter Try.func19, Try.ntmps19
  go_wp2
  go_loopw [4] (fun _ wr => wr = w0) (fun _ _ => 0)
  case atStart => rfl
  case round =>
    subst hrel
    go_wp2_with (first | (go_at_call 21; refine (load64 a x _ h0).mono ?_; rintro e w1 ⟨rfl, rfl⟩) | (go_at_call 20; refine (mark1 p x n _ hp).mono ?_; rintro e w1 ⟨rfl, rfl⟩; rw [hy]))
    go_ret
    exact ⟨rfl, rfl⟩
theorem raise_count_up (a p : Addr) (x n y : Int) (w : World) (h0 : w.cell? a = some (.int .i64 x)) (f0 : w.frozen? a = false) (hp : w.cell? p = some (.int .i64 n)) (h1 : 0 ≤ x) (h2 : x ≤ 4611686018427387904) (h3 : 0 ≤ n) (h4 : n ≤ 4294967296) (hy : min (x + n) 4611686018427387904 = y) (hne : (y == x) = false) :
    Calls Try.prog 19 #[.pointer (some a), .func (.func 22) #[] #[.pointer (some p)]] w fun e w' => e = .returned (.bool true) ∧ w' = w.setCell a (.int .i64 y) := by
  obtain ⟨w0, hw0⟩ : ∃ w0, w0 = w := ⟨_, rfl⟩
  subst hw0
  go_enter Try.func19, Try.ntmps19
  go_wp2
  go_loopw [4] (fun _ wr => wr = w0) (fun _ _ => 0)
  case atStart => rfl
  case round =>
    subst hrel
    go_wp2_with (first | (go_at_call 21; refine (load64 a x _ h0).mono ?_; rintro e w1 ⟨rfl, rfl⟩) | (go_at_call 22; refine (count1 p x n _ hp h1 h2 h3 h4).mono ?_; rintro e w1 ⟨rfl, rfl⟩; rw [hy]) | (go_at_call 28; refine (cas64 a x y _ h0 f0).mono ?_; rintro e w1 ⟨rfl, rfl⟩))
    go_ret
    exact ⟨rfl, rfl⟩
theorem raise_count_low (a p : Addr) (x n : Int) (w : World) (h0 : w.cell? a = some (.int .i64 x)) (hp : w.cell? p = some (.int .i64 n)) (h1 : 0 ≤ x) (h2 : x ≤ 4611686018427387904) (h3 : 0 ≤ n) (h4 : n ≤ 4294967296) (hy : min (x + n) 4611686018427387904 = x) :
    Calls Try.prog 19 #[.pointer (some a), .func (.func 22) #[] #[.pointer (some p)]] w fun e w' => e = .returned (.bool false) ∧ w' = w := by
  obtain ⟨w0, hw0⟩ : ∃ w0, w0 = w := ⟨_, rfl⟩
  subst hw0
  go_enter Try.func19, Try.ntmps19
  go_wp2
  go_loopw [4] (fun _ wr => wr = w0) (fun _ _ => 0)
  case atStart => rfl
  case round =>
    subst hrel
    go_wp2_with (first | (go_at_call 21; refine (load64 a x _ h0).mono ?_; rintro e w1 ⟨rfl, rfl⟩) | (go_at_call 22; refine (count1 p x n _ hp h1 h2 h3 h4).mono ?_; rintro e w1 ⟨rfl, rfl⟩; rw [hy]))
    go_ret
    exact ⟨rfl, rfl⟩

/-- Block b alone may have turned, of those that were there. -/
structure Near (b : Nat) (w w' : World) : Prop where
  os : w'.os = w.os
  tape : w'.tape = w.tape
  output : w'.output = w.output
  size : w.heap.size ≤ w'.heap.size
  block : ∀ k, k < w.heap.size → k ≠ b → w'.heap[k]? = w.heap[k]?
theorem Near.refl (b : Nat) (w : World) : Near b w w := ⟨rfl, rfl, rfl, Nat.le_refl _, fun _ _ _ => rfl⟩
theorem Near.trans {b : Nat} {x y z : World} (h : Near b x y) (k : Near b y z) : Near b x z :=
  ⟨k.os.trans h.os, k.tape.trans h.tape, k.output.trans h.output, Nat.le_trans h.size k.size, fun i hi hb => (k.block i (Nat.lt_of_lt_of_le hi h.size) hb).trans (h.block i hi hb)⟩
theorem Near.alloc (b : Nat) (w : World) (o : Obj) : Near b w (w.alloc o) := ⟨rfl, rfl, rfl, by simp, fun k hk _ => Below.heap_alloc _ _ _ hk⟩
theorem Near.set (b i : Nat) (w : World) (u : Value) : Near b w (w.setCell ⟨b, i, none⟩ u) := ⟨rfl, rfl, rfl, by simp [World.setCell], fun k _ hb => Below.heap_setCell _ _ _ _ hb⟩
theorem Near.drew (b : Nat) (w : World) : Near b w w.drew := ⟨rfl, rfl, rfl, Nat.le_refl _, fun _ _ _ => rfl⟩
theorem Near.below {b B : Nat} {w w' : World} (h : Near b w w') (h1 : B ≤ b) (h2 : B ≤ w.heap.size) : Below B w w' := ⟨h.os, h.tape, h.output, h.size, fun k hk => h.block k (by omega) (by omega)⟩
theorem Near.to {b B : Nat} {w0 w w' : World} (h0 : Below B w0 w) (h : Near b w w') (h1 : B ≤ b) (h2 : B ≤ w0.heap.size) : Below B w0 w' := h0.trans (h.below h1 (Nat.le_trans h2 h0.size))
/-- Block b holds a meter: its sixteen counts, its greatest mark, whether it is closed (1), and why. -/
structure Mt (w : World) (b : Nat) (cs : List Int) (hi cl rs : Int) : Prop where
  len : cs.length = 16
  lt : b < w.heap.size
  count : ∀ k, k < 16 → w.cell? ⟨b, k, none⟩ = some (.int .i64 (cs.getD k 0))
  high : w.cell? ⟨b, 16, none⟩ = some (.int .i64 hi)
  done : w.cell? ⟨b, 17, none⟩ = some (.int .u32 cl)
  lock : w.cell? ⟨b, 18, none⟩ = some (.int .i32 0)
  closed : w.cell? ⟨b, 20, none⟩ = some (.int .u32 cl)
  why : w.cell? ⟨b, 21, none⟩ = some (.int .i64 rs)
  free : ∀ k, w.frozen? ⟨b, k, none⟩ = false
theorem Mt.near {w w' : World} {b b2 : Nat} {cs : List Int} {hi cl rs : Int} (h : Mt w b cs hi cl rs) (n : Near b2 w w') (hne : b ≠ b2) : Mt w' b cs hi cl rs := by
  have hb := n.block b h.lt hne
  have hc : ∀ i, w'.cell? ⟨b, i, none⟩ = w.cell? ⟨b, i, none⟩ := fun i => World.cell?_of_block (w := w) hb
  exact ⟨h.len, Nat.lt_of_lt_of_le h.lt n.size, fun k hk => (hc k).trans (h.count k hk), (hc _).trans h.high, (hc _).trans h.done, (hc _).trans h.lock, (hc _).trans h.closed, (hc _).trans h.why, fun k => (World.frozen?_of_block (w := w) (a := ⟨b, k, none⟩) hb).trans (h.free k)⟩
theorem Mt.alloc {w : World} {b : Nat} {cs : List Int} {hi cl rs : Int} (h : Mt w b cs hi cl rs) (o : Obj) : Mt (w.alloc o) b cs hi cl rs :=
  h.near (b2 := w.heap.size) (Near.alloc _ w o) (by have := h.lt; omega)
theorem Mt.below {w w' : World} {b B : Nat} {cs : List Int} {hi cl rs : Int} (h : Mt w b cs hi cl rs) (n : Below B w w') (hb : b < B) : Mt w' b cs hi cl rs := by
  have hb := n.block b hb
  have hc : ∀ i, w'.cell? ⟨b, i, none⟩ = w.cell? ⟨b, i, none⟩ := fun i => World.cell?_of_block (w := w) hb
  exact ⟨h.len, Nat.lt_of_lt_of_le h.lt n.size, fun k hk => (hc k).trans (h.count k hk), (hc _).trans h.high, (hc _).trans h.done, (hc _).trans h.lock, (hc _).trans h.closed, (hc _).trans h.why, fun k => (World.frozen?_of_block (w := w) (a := ⟨b, k, none⟩) hb).trans (h.free k)⟩
theorem other {b i j : Nat} (h : i ≠ j) : (⟨b, i, none⟩ : Addr) ≠ ⟨b, j, none⟩ := fun e => h (by injection e)
theorem Mt.setHigh {w : World} {b : Nat} {cs : List Int} {hi cl rs : Int} (h : Mt w b cs hi cl rs) (y : Int) : Mt (w.setCell ⟨b, 16, none⟩ (.int .i64 y)) b cs y cl rs := by
  have hc : ∀ i, 16 ≠ i → (w.setCell ⟨b, 16, none⟩ (.int .i64 y)).cell? ⟨b, i, none⟩ = w.cell? ⟨b, i, none⟩ := fun i hi => World.cell?_setCell_other _ _ _ _ (other hi)
  exact ⟨h.len, by rw [World.size_setCell]; exact h.lt, fun k hk => (hc k (by omega)).trans (h.count k hk), World.cell?_setCell_same _ _ _ h.high, (hc _ (by decide)).trans h.done, (hc _ (by decide)).trans h.lock, (hc _ (by decide)).trans h.closed, (hc _ (by decide)).trans h.why, fun k => by rw [World.frozen?_setCell]; exact h.free k⟩
theorem Mt.setCount {w : World} {b : Nat} {cs : List Int} {hi cl rs : Int} (h : Mt w b cs hi cl rs) (j : Nat) (hj : j < 16) (y : Int) : Mt (w.setCell ⟨b, j, none⟩ (.int .i64 y)) b (cs.set j y) hi cl rs := by
  have hc : ∀ i, j ≠ i → (w.setCell ⟨b, j, none⟩ (.int .i64 y)).cell? ⟨b, i, none⟩ = w.cell? ⟨b, i, none⟩ := fun i hi => World.cell?_setCell_other _ _ _ _ (other hi)
  refine ⟨by rw [List.length_set]; exact h.len, by rw [World.size_setCell]; exact h.lt, fun k hk => ?_, (hc _ (by omega)).trans h.high, (hc _ (by omega)).trans h.done, (hc _ (by omega)).trans h.lock, (hc _ (by omega)).trans h.closed, (hc _ (by omega)).trans h.why, fun k => by rw [World.frozen?_setCell]; exact h.free k⟩
  by_cases e : j = k
  · subst e
    rw [World.cell?_setCell_same _ _ _ (h.count j hj), List.getD_eq_getElem?_getD, List.getElem?_set_self (by rw [h.len]; exact hj)]
    rfl
  · rw [hc k e, h.count k hk, List.getD_eq_getElem?_getD, List.getD_eq_getElem?_getD, List.getElem?_set_ne e]
def zeros : List Int := [0, 0, 0, 0, 0, 0, 0, 0, 0, 0, 0, 0, 0, 0, 0, 0]
theorem new_c (w : World) : Calls Try.prog 10 #[] w fun e w' => e = .returned (.pointer (some ⟨w.heap.size, 0, none⟩)) ∧ Mt w' w.heap.size zeros 0 0 0 ∧ Below w.heap.size w w' := by
  go_enter Try.func10, Try.ntmps10
  go_wp2
  go_ret
  refine ⟨rfl, ⟨rfl, by simp, fun k hk => ?_, World.cell?_alloc_new _ _ _ _, World.cell?_alloc_new _ _ _ _, World.cell?_alloc_new _ _ _ _, World.cell?_alloc_new _ _ _ _, World.cell?_alloc_new _ _ _ _, fun k => World.frozen?_alloc_new _ _ _ _⟩, Below.alloc (Below.refl _ _) (Nat.le_refl _) _⟩
  rw [World.cell?_alloc_new]
  have hk' : k = 0 ∨ k = 1 ∨ k = 2 ∨ k = 3 ∨ k = 4 ∨ k = 5 ∨ k = 6 ∨ k = 7 ∨ k = 8 ∨ k = 9 ∨ k = 10 ∨ k = 11 ∨ k = 12 ∨ k = 13 ∨ k = 14 ∨ k = 15 := by omega
  rcases hk' with rfl | rfl | rfl | rfl | rfl | rfl | rfl | rfl | rfl | rfl | rfl | rfl | rfl | rfl | rfl | rfl <;> rfl
theorem high_c (b : Nat) (cs : List Int) (hi cl rs : Int) (w : World) (h : Mt w b cs hi cl rs) :
    Calls Try.prog 12 #[.pointer (some ⟨b, 0, none⟩)] w fun e w' => e = .returned (.int .i64 hi) ∧ w' = w := by
  have h1 := h.high
  go_enter Try.func12, Try.ntmps12
  go_wp2_with (go_at_call 21; refine (load64 _ hi _ h1).mono ?_; rintro e w1 ⟨rfl, rfl⟩)
  go_ret
  exact ⟨rfl, rfl⟩
theorem get_in (b : Nat) (cs : List Int) (hi cl rs : Int) (k : Nat) (hk : k < 16) (w : World) (h : Mt w b cs hi cl rs) :
    Calls Try.prog 14 #[.pointer (some ⟨b, 0, none⟩), .int .i64 k] w fun e w' => e = .returned (.int .i64 (cs.getD k 0)) ∧ w' = w := by
  have h1 := h.count k hk
  have h2 : (k : Int) < 16 := by omega
  go_enter Try.func14, Try.ntmps14
  go_wp2_with (go_at_call 21; refine (load64 _ (cs.getD k 0) _ (by simpa using h1)).mono ?_; rintro e w1 ⟨rfl, rfl⟩)
  go_ret
  exact ⟨rfl, rfl⟩
theorem get_out (p : Value) (k : Int) (hk : k < 0 ∨ 16 ≤ k) (w : World) :
    Calls Try.prog 14 #[p, .int .i64 k] w fun e w' => e = .returned (.int .i64 0) ∧ w' = w := by
  rcases hk with hk | hk
  · go_enter Try.func14, Try.ntmps14
    go_wp2
    go_ret
    exact ⟨rfl, rfl⟩
  · go_enter Try.func14, Try.ntmps14
    go_wp2
    go_ret
    exact ⟨rfl, rfl⟩
theorem mark_up (b : Nat) (cs : List Int) (hi rs n : Int) (w : World) (h : Mt w b cs hi 0 rs) (hn : hi < n) :
    Calls Try.prog 11 #[.pointer (some ⟨b, 0, none⟩), .int .i64 n] w fun e w' => e = .returned (.bool true) ∧ Mt w' b cs n 0 rs ∧ Near b w w' := by
  have HM := Aside0.mk h
  have h1 := (h.alloc (.cells #[.int .i64 n] 3)).closed
  have HN := Aside0.mk hn
  clear h hn
  go_enter Try.func11, Try.ntmps11
  go_wp2_with (first | (go_at_call 18; refine (loadB _ 0 _ h1).mono ?_; rintro e w1 ⟨rfl, rfl⟩) | (go_at_call 19; refine (raise_mark_up ⟨b, 16, none⟩ ⟨w.heap.size, 0, none⟩ hi n n _ (HM.out.alloc _).high ((HM.out.alloc _).free 16) (by simp) (by have := HN.out; omega) (by have := HN.out; simp; omega)).mono ?_; rintro e w1 ⟨rfl, rfl⟩))
  go_ret
  exact ⟨rfl, (HM.out.alloc _).setHigh n, (Near.alloc b w _).trans (Near.set b 16 _ _)⟩
theorem mark_low (b : Nat) (cs : List Int) (hi rs n : Int) (w : World) (h : Mt w b cs hi 0 rs) (hn : n ≤ hi) :
    Calls Try.prog 11 #[.pointer (some ⟨b, 0, none⟩), .int .i64 n] w fun e w' => e = .returned (.bool false) ∧ Mt w' b cs hi 0 rs ∧ Near b w w' := by
  have HM := Aside0.mk h
  have h1 := (h.alloc (.cells #[.int .i64 n] 3)).closed
  have HN := Aside0.mk hn
  clear h hn
  go_enter Try.func11, Try.ntmps11
  go_wp2_with (first | (go_at_call 18; refine (loadB _ 0 _ h1).mono ?_; rintro e w1 ⟨rfl, rfl⟩) | (go_at_call 19; refine (raise_mark_low ⟨b, 16, none⟩ ⟨w.heap.size, 0, none⟩ hi n _ (HM.out.alloc _).high (by simp) (by have := HN.out; omega)).mono ?_; rintro e w1 ⟨rfl, rfl⟩))
  go_ret
  exact ⟨rfl, HM.out.alloc _, Near.alloc b w _⟩
theorem mark_shut (b : Nat) (cs : List Int) (hi rs n : Int) (w : World) (h : Mt w b cs hi 1 rs) :
    Calls Try.prog 11 #[.pointer (some ⟨b, 0, none⟩), .int .i64 n] w fun e w' => e = .returned (.bool false) ∧ Mt w' b cs hi 1 rs ∧ Near b w w' := by
  have HM := Aside0.mk h
  have h1 := (h.alloc (.cells #[.int .i64 n] 3)).closed
  clear h
  go_enter Try.func11, Try.ntmps11
  go_wp2_with (first | (go_at_call 18; refine (loadB _ 1 _ h1).mono ?_; rintro e w1 ⟨rfl, rfl⟩))
  go_ret
  exact ⟨rfl, HM.out.alloc _, Near.alloc b w _⟩
theorem mark_c (b : Nat) (cs : List Int) (hi rs n : Int) (w : World) (h : Mt w b cs hi 0 rs) :
    Calls Try.prog 11 #[.pointer (some ⟨b, 0, none⟩), .int .i64 n] w fun e w' => e = .returned (.bool (decide (hi < n))) ∧ Mt w' b cs (max hi n) 0 rs ∧ Near b w w' := by
  by_cases hn : hi < n
  · rw [decide_eq_true hn, show max hi n = n by omega]
    exact mark_up b cs hi rs n w h hn
  · rw [decide_eq_false hn, show max hi n = hi by omega]
    exact mark_low b cs hi rs n w h (by omega)
/-- A count that is taken. -/
def okC (k n : Int) : Prop := 0 ≤ k ∧ k < 16 ∧ 0 ≤ n ∧ n ≤ 4294967296
instance (k n : Int) : Decidable (okC k n) := inferInstanceAs (Decidable (0 ≤ k ∧ k < 16 ∧ 0 ≤ n ∧ n ≤ 4294967296))
theorem count_in (b : Nat) (cs : List Int) (hi rs n : Int) (k : Nat) (hk : k < 16) (hn : 0 ≤ n) (hn2 : n ≤ 4294967296) (w : World) (h : Mt w b cs hi 0 rs) (hc : 0 ≤ cs.getD k 0) (hc2 : cs.getD k 0 ≤ 4611686018427387904) :
    Calls Try.prog 13 #[.pointer (some ⟨b, 0, none⟩), .int .i64 k, .int .i64 n] w fun e w' => e = .returned (.bool true) ∧ Mt w' b (cs.set k (min (cs.getD k 0 + n) 4611686018427387904)) hi 0 rs ∧ Near b w w' := by
  have HM := Aside0.mk h
  have h1 := (h.alloc (.cells #[.int .i64 n] 3)).closed
  have hk2 : (k : Int) < 16 := by omega
  have h2 := (h.alloc (.cells #[.int .i64 n] 3)).count k hk
  obtain ⟨x, hx⟩ : ∃ x, cs.getD k 0 = x := ⟨_, rfl⟩
  rw [hx] at h2 hc hc2 ⊢
  have HC := Aside0.mk hc
  have HC2 := Aside0.mk hc2
  have HX := Aside0.mk hx
  have HK := Aside0.mk hk
  clear h hc hc2 hx hk
  go_enter Try.func13, Try.ntmps13
  by_cases hy : min (x + n) 4611686018427387904 = x
  · have HY := Aside0.mk hy
    clear hy
    go_wp2_with (first | (go_at_call 18; refine (loadB _ 0 _ h1).mono ?_; rintro e w1 ⟨rfl, rfl⟩) | (go_at_call 19; refine (raise_count_low ⟨b, k, none⟩ ⟨w.heap.size, 0, none⟩ x n _ h2 (by simp) HC.out HC2.out hn hn2 HY.out).mono ?_; rintro e w1 ⟨rfl, rfl⟩))
    go_ret
    refine ⟨rfl, ?_, Near.alloc b w _⟩
    rw [HY.out]
    have e : cs.set k x = cs := by
      apply List.ext_getElem?
      intro i
      by_cases e : k = i
      · subst e
        have h3 := HX.out
        rw [List.getElem?_set_self (by rw [HM.out.len]; exact HK.out)]
        rw [List.getD_eq_getElem?_getD, List.getElem?_eq_getElem (by rw [HM.out.len]; exact HK.out)] at h3
        rw [List.getElem?_eq_getElem (by rw [HM.out.len]; exact HK.out), ← h3]
        rfl
      · rw [List.getElem?_set_ne e]
    rw [e]
    exact HM.out.alloc _
  · have HY := Aside0.mk hy
    clear hy
    go_wp2_with (first | (go_at_call 18; refine (loadB _ 0 _ h1).mono ?_; rintro e w1 ⟨rfl, rfl⟩) | (go_at_call 19; refine (raise_count_up ⟨b, k, none⟩ ⟨w.heap.size, 0, none⟩ x n _ _ h2 ((HM.out.alloc _).free k) (by simp) HC.out HC2.out hn hn2 rfl (beq_eq_false_iff_ne.mpr HY.out)).mono ?_; rintro e w1 ⟨rfl, rfl⟩))
    go_ret
    exact ⟨rfl, (HM.out.alloc _).setCount k HK.out _, (Near.alloc b w _).trans (Near.set b k _ _)⟩
theorem count_out (b : Nat) (cs : List Int) (hi rs k n : Int) (hkn : ¬ okC k n) (w : World) (h : Mt w b cs hi 0 rs) :
    Calls Try.prog 13 #[.pointer (some ⟨b, 0, none⟩), .int .i64 k, .int .i64 n] w fun e w' => e = .returned (.bool false) ∧ Mt w' b cs hi 0 rs ∧ Near b w w' := by
  have HM := Aside0.mk h
  have h1 := (h.alloc (.cells #[.int .i64 n] 3)).closed
  clear h
  have hkn' : k < 0 ∨ (0 ≤ k ∧ 16 ≤ k) ∨ (0 ≤ k ∧ k < 16 ∧ n < 0) ∨ (0 ≤ k ∧ k < 16 ∧ 0 ≤ n ∧ 4294967296 < n) := by unfold okC at hkn; omega
  clear hkn
  rcases hkn' with g | ⟨g, g1⟩ | ⟨g, g1, g2⟩ | ⟨g, g1, g2, g3⟩
  all_goals (go_enter Try.func13, Try.ntmps13)
  all_goals (go_wp2_with (first | (go_at_call 18; refine (loadB _ 0 _ h1).mono ?_; rintro e w1 ⟨rfl, rfl⟩)))
  all_goals (go_ret; exact ⟨rfl, HM.out.alloc _, Near.alloc b w _⟩)
theorem count_shut (b : Nat) (cs : List Int) (hi rs k n : Int) (w : World) (h : Mt w b cs hi 1 rs) :
    Calls Try.prog 13 #[.pointer (some ⟨b, 0, none⟩), .int .i64 k, .int .i64 n] w fun e w' => e = .returned (.bool false) ∧ Mt w' b cs hi 1 rs ∧ Near b w w' := by
  have HM := Aside0.mk h
  have h1 := (h.alloc (.cells #[.int .i64 n] 3)).closed
  clear h
  go_enter Try.func13, Try.ntmps13
  go_wp2_with (first | (go_at_call 18; refine (loadB _ 1 _ h1).mono ?_; rintro e w1 ⟨rfl, rfl⟩))
  go_ret
  exact ⟨rfl, HM.out.alloc _, Near.alloc b w _⟩
end Go.Proofs.Ytblibjnhldocaaa.HandM
