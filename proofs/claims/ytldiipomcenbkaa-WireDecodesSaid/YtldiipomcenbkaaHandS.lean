/- sync.Once and the hasher, by hand, in one goroutine. -/
import Derived.Test.YtldiipomcenbkaaHandC
import Derived.Below
import Derived.Tactics
import Derived.Tactics2
import Derived.Defers
import Derived.WalkKit
import Derived.KernelRfl
import Derived.RowKit3
import Derived.RowKit
import Derived.Laws.Pointers
import Derived.Laws.LoneSync
import Derived.Laws.NewBlocks
import Derived.RegionTactic
import Derived.RegionCalls
import Derived.ChangeAlike
import Derived.Deep.LoopGhost
import Derived.OwnWalk
import Derived.Deep.Cut
namespace Go.Proofs.Ytldiipomcenbkaa.HandS
open Go.RowKit Go.Proofs.Ytldiipomcenbkaa.HandC
set_option linter.unusedVariables false
set_option linter.unusedSimpArgs false
/-- A fact out of the walk's sight. -/
structure Aside0 (p : Prop) : Prop where
  out : p
theorem loadB (a : Addr) (x : Int) (w : World) (h0 : w.cell? a = some (.int .u32 x)) :
    Calls Try.prog 42 #[.pointer (some a)] w fun e w' => e = .returned (.bool (x != 0)) ∧ w' = w := by
  have hl := run_call_load (P := Try.prog) Try.func44 (by kernel_rfl) (by kernel_rfl) (by kernel_rfl) .u32 (by kernel_rfl) h0
  go_enter Try.func42, Try.ntmps42
  go_wp2
  go_ret
  exact ⟨rfl, rfl⟩
/-- Block b alone may have turned, of those that were there. -/
structure Near (b : Nat) (w w' : World) : Prop where
  os : w'.os = w.os
  tape : w'.tape = w.tape
  output : w'.output = w.output
  size : w.heap.size ≤ w'.heap.size
  block : ∀ k, k < w.heap.size → k ≠ b → w'.heap[k]? = w.heap[k]?
theorem Near.refl (b : Nat) (w : World) : Near b w w := ⟨rfl, rfl, rfl, Nat.le_refl _, fun _ _ _ => rfl⟩
theorem Near.trans {b : Nat} {x y z : World} (h : Near b x y) (k : Near b y z) : Near b x z :=
  ⟨k.os.trans h.os, k.tape.trans h.tape, k.output.trans h.output, Nat.le_trans h.size k.size, fun i hi hb => (k.block i (Nat.lt_of_lt_of_le hi h.size) hb).trans (h.block i hi hb)⟩
theorem Near.alloc (b : Nat) (w : World) (o : Obj) : Near b w (w.alloc o) := ⟨rfl, rfl, rfl, by simp, fun k hk _ => Below.heap_alloc _ _ _ hk⟩
theorem Near.set (b i : Nat) (w : World) (u : Value) : Near b w (w.setCell ⟨b, i, none⟩ u) := ⟨rfl, rfl, rfl, by simp [World.setCell], fun k _ hb => Below.heap_setCell _ _ _ _ hb⟩
theorem Near.drew (b : Nat) (w : World) : Near b w w.drew := ⟨rfl, rfl, rfl, Nat.le_refl _, fun _ _ _ => rfl⟩
theorem Near.below {b B : Nat} {w w' : World} (h : Near b w w') (h1 : B ≤ b) (h2 : B ≤ w.heap.size) : Below B w w' := ⟨h.os, h.tape, h.output, h.size, fun k hk => h.block k (by omega) (by omega)⟩
theorem Near.to {b B : Nat} {w0 w w' : World} (h0 : Below B w0 w) (h : Near b w w') (h1 : B ≤ b) (h2 : B ≤ w0.heap.size) : Below B w0 w' := h0.trans (h.below h1 (Nat.le_trans h2 h0.size))
theorem other {b i j : Nat} (h : i ≠ j) : (⟨b, i, none⟩ : Addr) ≠ ⟨b, j, none⟩ := fun e => h (by injection e)
theorem disable (w : World) : (callFunc 52 #[]).run Try.prog w = .ok (.value (.tuple #[])) w := run_call_mark0 Try.func52 (by kernel_rfl) (by kernel_rfl) (by kernel_rfl) .disable (by kernel_rfl) w
theorem enable (w : World) : (callFunc 54 #[]).run Try.prog w = .ok (.value (.tuple #[])) w := run_call_mark0 Try.func54 (by kernel_rfl) (by kernel_rfl) (by kernel_rfl) .enable (by kernel_rfl) w
theorem acquire (a : Addr) (w : World) : (callFunc 55 #[.pointer (some a)]).run Try.prog w = .ok (.value (.tuple #[])) w := run_call_marked Try.func55 (by kernel_rfl) (by kernel_rfl) (by kernel_rfl) .acquire (by kernel_rfl) a w
theorem releaseMerge (a : Addr) (w : World) : (callFunc 57 #[.pointer (some a)]).run Try.prog w = .ok (.value (.tuple #[])) w := run_call_marked Try.func57 (by kernel_rfl) (by kernel_rfl) (by kernel_rfl) .releaseMerge (by kernel_rfl) a w
theorem store_deferred (a : Addr) (x : Value) (u : FrameMode) (w : World) (hc : w.cell? a = some x) (hz : w.frozen? a = false) :
    CallsD Try.prog 47 #[.pointer (some a), .bool true] u w fun e u' w' => u' = u ∧ (e = .returned (.tuple #[]) ∧ w' = w.drew.setCell a (.int .u32 1)) := by
  have hc' : w.drew.cell? a = some x := by go_simp
  have hz' : w.drew.frozen? a = false := by go_simp
  have hst := run_call_store (P := Try.prog) Try.func50 (by kernel_rfl) (by kernel_rfl) (by kernel_rfl) (by kernel_rfl) (k := .u32) (y := 1) hc' hz'
  go_enter_d Try.func47, Try.ntmps47
  go_wp2
  go_region_calls
  all_goals (go_end0; exact ⟨rfl, rfl⟩)
set_option maxRecDepth 100000 in
theorem unlock_deferred (a : Addr) (u : FrameMode) (w : World) (hc : w.cell? a = some (.int .i32 1)) (hz : w.frozen? a = false) :
    CallsD Try.prog 46 #[.pointer (some a)] u w fun e u' w' => u' = u ∧ (e = .returned (.tuple #[]) ∧ w' = w.setCell a (.int .i32 0)) := by
  have hd := disable
  have he := enable
  have hr := releaseMerge
  have hadd := run_call_add (P := Try.prog) Try.func58 (by kernel_rfl) (by kernel_rfl) (by kernel_rfl) .i32 (by kernel_rfl) (y := -1) (s := 0) hc hz (by simp [go_sem]; rfl)
  have hcv := run_convert_to_unsafe (P := Try.prog) (src := 91) (dst := 95) Try.underlying91 Try.underlying95 (by kernel_rfl) hc
  go_enter_d Try.func46, Try.ntmps46
  go_wp2
  go_end0
  go_wp2
  go_end0
  exact ⟨rfl, rfl⟩
set_option maxRecDepth 100000 in
theorem lock_free (a : Addr) (w : World) (hc : w.cell? a = some (.int .i32 0)) (hz : w.frozen? a = false) :
    Calls Try.prog 45 #[.pointer (some a)] w fun e w' => e = .returned (.tuple #[]) ∧ w' = w.setCell a (.int .i32 1) := by
  have hd := disable
  have he := enable
  have ha := acquire
  have hcas := run_call_cas_hit (P := Try.prog) Try.func53 (by kernel_rfl) (by kernel_rfl) (by kernel_rfl) .i32 (by kernel_rfl) (y := 1) hc hz
  have hc' : (w.setCell a (.int .i32 1)).cell? a = some (.int .i32 1) := World.cell?_setCell_same w a _ hc
  have hcv := run_convert_to_unsafe (P := Try.prog) (src := 91) (dst := 95) Try.underlying91 Try.underlying95 (by kernel_rfl) hc'
  go_enter Try.func45, Try.ntmps45
  go_wp2
  first | go_end0 | (simp only [Exit.inBlock, Exit.then]; refine bodyPost_ret (results_none rfl _ _ _) rfl ?_) | refine bodyPost_ret (results_none rfl _ _ _) rfl ?_
  go_wp2
  go_end0
  exact ⟨rfl, rfl⟩
theorem blk {i j k l : Nat} (h : i ≠ k) : (⟨i, j, none⟩ : Addr) ≠ ⟨k, l, none⟩ := fun e => h (by injection e)
/-- Block b holds a hasher: whether its table is made (1), its lock, and how much of the table. -/
structure Hs (w : World) (b : Nat) (dn lk : Int) (n : Nat) : Prop where
  lt : b < w.heap.size
  done : w.cell? ⟨b, 0, none⟩ = some (.int .u32 dn)
  lock : w.cell? ⟨b, 1, none⟩ = some (.int .i32 lk)
  tabs : ∀ k : Nat, k < 256 → w.cell? ⟨b, 3 + k, none⟩ = some (.int .u16 ((if k < n then tab k else 0 : Nat) : Int))
  free : ∀ k, w.frozen? ⟨b, k, none⟩ = false
section
variable {w w' : World} {b : Nat} {dn lk : Int} {n : Nat}
theorem Hs.near {b2 : Nat} (h : Hs w b dn lk n) (m : Near b2 w w') (hne : b ≠ b2) : Hs w' b dn lk n := by
  have hb := m.block b h.lt hne
  have hc : ∀ i, w'.cell? ⟨b, i, none⟩ = w.cell? ⟨b, i, none⟩ := fun i => World.cell?_of_block (w := w) hb
  exact ⟨Nat.lt_of_lt_of_le h.lt m.size, (hc _).trans h.done, (hc _).trans h.lock, fun k hk => (hc _).trans (h.tabs k hk), fun k => (World.frozen?_of_block (w := w) (a := ⟨b, k, none⟩) hb).trans (h.free k)⟩
theorem Hs.below {B : Nat} (h : Hs w b dn lk n) (m : Below B w w') (hlt : b < B) : Hs w' b dn lk n := by
  have hb := m.block b hlt
  have hc : ∀ i, w'.cell? ⟨b, i, none⟩ = w.cell? ⟨b, i, none⟩ := fun i => World.cell?_of_block (w := w) hb
  exact ⟨Nat.lt_of_lt_of_le h.lt m.size, (hc _).trans h.done, (hc _).trans h.lock, fun k hk => (hc _).trans (h.tabs k hk), fun k => (World.frozen?_of_block (w := w) (a := ⟨b, k, none⟩) hb).trans (h.free k)⟩
theorem Hs.alloc (h : Hs w b dn lk n) (o : Obj) : Hs (w.alloc o) b dn lk n := h.near (Near.alloc w.heap.size w o) (by have := h.lt; omega)
theorem Hs.drew (h : Hs w b dn lk n) : Hs w.drew b dn lk n := h.near (Near.drew w.heap.size w) (by have := h.lt; omega)
theorem Hs.setDone (h : Hs w b dn lk n) (v : Int) : Hs (w.setCell ⟨b, 0, none⟩ (.int .u32 v)) b v lk n := by
  have hc : ∀ i, 0 ≠ i → (w.setCell ⟨b, 0, none⟩ (.int .u32 v)).cell? ⟨b, i, none⟩ = w.cell? ⟨b, i, none⟩ := fun i hi => World.cell?_setCell_other _ _ _ _ (other hi)
  exact ⟨by rw [World.size_setCell]; exact h.lt, World.cell?_setCell_same _ _ _ h.done, (hc _ (by decide)).trans h.lock, fun k hk => (hc _ (by omega)).trans (h.tabs k hk), fun k => by rw [World.frozen?_setCell]; exact h.free k⟩
theorem Hs.setLock (h : Hs w b dn lk n) (v : Int) : Hs (w.setCell ⟨b, 1, none⟩ (.int .i32 v)) b dn v n := by
  have hc : ∀ i, 1 ≠ i → (w.setCell ⟨b, 1, none⟩ (.int .i32 v)).cell? ⟨b, i, none⟩ = w.cell? ⟨b, i, none⟩ := fun i hi => World.cell?_setCell_other _ _ _ _ (other hi)
  exact ⟨by rw [World.size_setCell]; exact h.lt, (hc _ (by decide)).trans h.done, World.cell?_setCell_same _ _ _ h.lock, fun k hk => (hc _ (by omega)).trans (h.tabs k hk), fun k => by rw [World.frozen?_setCell]; exact h.free k⟩
theorem Hs.setTab (h : Hs w b dn lk n) (hn : n < 256) : Hs (w.setCell ⟨b, 3 + n, none⟩ (.int .u16 (tab n : Nat))) b dn lk (n + 1) := by
  have hc : ∀ i, 3 + n ≠ i → (w.setCell ⟨b, 3 + n, none⟩ (.int .u16 (tab n : Nat))).cell? ⟨b, i, none⟩ = w.cell? ⟨b, i, none⟩ := fun i hi => World.cell?_setCell_other _ _ _ _ (other hi)
  refine ⟨by rw [World.size_setCell]; exact h.lt, (hc _ (by omega)).trans h.done, (hc _ (by omega)).trans h.lock, fun k hk => ?_, fun k => by rw [World.frozen?_setCell]; exact h.free k⟩
  by_cases e : k = n
  · subst e
    rw [World.cell?_setCell_same _ _ _ (h.tabs k hk), if_pos (Nat.lt_succ_self k)]
  · rw [hc _ (by omega), h.tabs k hk]
    by_cases hk2 : k < n
    · rw [if_pos hk2, if_pos (by omega)]
    · rw [if_neg hk2, if_neg (by omega)]
end
def zhl : List Value := [Value.int .u32 0, Value.int .i32 0, Value.int .u32 0] ++ List.replicate 256 (Value.int .u16 0)
def zh : Array Value := zhl.toArray
theorem zero53 (w : World) : (zeroValue 77).run Try.prog w = .ok (.agg zh) w := by kernel_rfl
theorem zh_tab (k : Nat) (hk : k < 256) : zh[3 + k]? = some (.int .u16 0) := by
  unfold zh zhl
  rw [List.getElem?_toArray, List.getElem?_append_right (by show 3 ≤ _; omega), List.getElem?_replicate, if_pos (by show 3 + k - 3 < 256; omega)]
theorem zh_0 : zh[0]? = some (.int .u32 0) := by kernel_rfl
theorem zh_1 : zh[1]? = some (.int .i32 0) := by kernel_rfl
theorem new_c (w : World) : Calls Try.prog 21 #[] w fun e w' => e = .returned (.pointer (some ⟨w.heap.size, 0, none⟩)) ∧ Hs w' w.heap.size 0 0 0 ∧ Below w.heap.size w w' := by
  have hz := zero53
  go_enter Try.func21, Try.ntmps21
  go_wp2
  go_ret
  refine ⟨rfl, ⟨by simp, ?_, ?_, fun k hk => ?_, fun k => World.frozen?_alloc_new _ _ _ _⟩, Below.alloc (Below.refl _ _) (Nat.le_refl _) _⟩
  · exact (World.cell?_alloc_new _ _ _ _).trans zh_0
  · exact (World.cell?_alloc_new _ _ _ _).trans zh_1
  · rw [if_neg (by omega)]
    exact (World.cell?_alloc_new _ _ _ _).trans (zh_tab k hk)
set_option maxRecDepth 100000 in
set_option maxHeartbeats 4000000 in
theorem fill_c (w : World) (b : Nat) (dn lk : Int) (h : Hs w b dn lk 0) : Calls Try.prog 40 #[.pointer (some ⟨b, 0, none⟩)] w fun e w' => e = .returned (.tuple #[]) ∧ Hs w' b dn lk 256 ∧ Near b w w' := by
  have H := Aside0.mk h
  clear h
  go_enter Try.func40, Try.ntmps40
  go_wp2
  go_loopw [4] (fun i wr => ∃ j : Nat, j ≤ 256 ∧ i = .int .i64 j ∧ Hs wr b dn lk j ∧ Near b w wr) (fun i _ => 256 - (intOf i).toNat)
  case atStart => exact ⟨0, by omega, rfl, H.out, Near.refl _ _⟩
  case round =>
    clear H
    obtain ⟨j, hj, rfl, hH, hN⟩ := hrel
    have H := Aside0.mk hH
    have HN := Aside0.mk hN
    clear hH hN
    by_cases hlt : j < 256
    · have hlt2 : (j : Int) < 256 := by omega
      go_wp2
      obtain ⟨c0, hc0⟩ : ∃ c0 : Nat, c0 = j * 256 := ⟨_, rfl⟩
      have hcast : (j : Int) * 256 = (c0 : Nat) := by rw [hc0]; push_cast; rfl
      obtain ⟨w1, hw1⟩ : ∃ w1, w1 = wr := ⟨_, rfl⟩
      subst hw1
      go_loopw [3, 10] (fun c i wr => ∃ m : Nat, m ≤ 8 ∧ i = .int .i64 m ∧ c = .int .u16 (bsn m c0 : Nat) ∧ wr = w1) (fun _ i _ => 8 - (intOf i).toNat)
      case atStart => exact ⟨0, by omega, rfl, by rw [hcast]; rfl, rfl⟩
      case round =>
        obtain ⟨m, hm, rfl, rfl, rfl⟩ := hrel
        by_cases hlt3 : m < 8
        · have hlt4 : (m : Int) < 8 := by omega
          have hb := bsn_lt m c0 (by omega)
          obtain ⟨c, hc⟩ : ∃ c, bsn m c0 = c := ⟨_, rfl⟩
          have hs := bsn_succ m c0
          rw [hc] at hb hs ⊢
          by_cases ht : 32768 ≤ c
          · go_wp2
            refine ⟨⟨m + 1, by omega, by go_num, ?_, trivial⟩, by simp [intOf]; omega⟩
            rw [bs_high c ht, hs]
          · go_wp2
            refine ⟨⟨m + 1, by omega, by go_num, ?_, trivial⟩, by simp [intOf]; omega⟩
            rw [hs, bs_low c ht]
            push_cast
            rfl
        · have hge : 8 ≤ (m : Int) := by omega
          have e8 : m = 8 := by omega
          obtain ⟨c, hc⟩ : ∃ c, bsn m c0 = c := ⟨_, rfl⟩
          have ht : tab j = c := by rw [← hc, e8, hc0]; rfl
          rw [hc]
          have HT := Aside0.mk ht
          have HS := Aside0.mk (H.out.setTab hlt)
          have h1 := H.out.tabs j hlt
          rw [if_neg (Nat.lt_irrefl j)] at h1
          have f1 := H.out.free (3 + j)
          rw [ht] at HS
          clear ht hc hc0 hcast e8
          go_wp2
          exact ⟨⟨j + 1, by omega, by go_num, HS.out, HN.out.trans (Near.set b _ _ _)⟩, by simp [intOf]; omega⟩
    · have hge : 256 ≤ (j : Int) := by omega
      have e : j = 256 := by omega
      rw [e] at H
      clear e hlt hj
      go_wp2
      go_end0
      exact ⟨rfl, H.out, HN.out⟩
def fillv (b : Nat) : Value := .func (.func 40) #[.pointer (some ⟨b, 0, none⟩)] #[]
set_option maxRecDepth 100000 in
set_option maxHeartbeats 4000000 in
theorem slow_c (w : World) (b : Nat) (h : Hs w b 0 0 0) :
    Calls Try.prog 43 #[.pointer (some ⟨b, 0, none⟩), .func (.func 40) #[.pointer (some ⟨b, 0, none⟩)] #[]] w fun e w' => e = .returned (.tuple #[]) ∧ Hs w' b 1 0 256 ∧ Near b w w' := by
  have h1 := h.lock
  have f1 := h.free 1
  have H := Aside0.mk h
  clear h
  go_enter_defers Try.func43, Try.ntmps43
  go_wp2_with (first
    | (go_at_call 45; with_reducible refine (lock_free ⟨b, 1, none⟩ _ h1 f1).mono ?_; rintro e w1 ⟨rfl, hw⟩; have H1 := Aside0.mk (hw ▸ H.out.setLock 1 : Hs w1 b 0 1 0); have N1 := Aside0.mk (hw ▸ Near.set b 1 w _ : Near b w w1); clear hw H h1 f1)
    | (go_at_call 42; with_reducible refine (loadB _ 0 _ H1.out.done).mono ?_; rintro e w2 ⟨rfl, rfl⟩)
    | (go_at_call 40; with_reducible refine (fill_c _ b 0 1 H1.out).mono ?_; rintro e w2 ⟨rfl, h2, n2⟩; have H2 := Aside0.mk h2; have N2 := Aside0.mk (N1.out.trans n2); clear h2 n2 H1 N1))
  go_wp2
  refine leaves_cons (f := 47) (args := #[.pointer (some ⟨b, 0, none⟩), .bool true]) (by simp) (by simp [go_sem]) ?_
  refine (store_deferred ⟨b, 0, none⟩ (.int .u32 0) .returning _ H2.out.done (H2.out.free 0)).mono ?_
  rintro e u' w'' ⟨rfl, rfl, rfl⟩
  have H3 := Aside0.mk (H2.out.drew.setDone 1)
  refine leaves_cons (f := 46) (args := #[.pointer (some ⟨b, 1, none⟩)]) (by simp [settle]) (by simp [go_sem]) ?_
  refine (unlock_deferred ⟨b, 1, none⟩ _ _ H3.out.lock (H3.out.free 1)).mono ?_
  rintro e u' w'' ⟨rfl, rfl, rfl⟩
  have H4 := Aside0.mk (H3.out.setLock 0)
  simp [Leaves, settle, results, Try.results43]
  exact ⟨H4.out, N2.out.trans (((Near.drew b _).trans (Near.set b 0 _ _)).trans (Near.set b 1 _ _))⟩
/-- A hasher that may be used: its table is not made yet, or made. -/
def Hh (w : World) (b : Nat) : Prop := Hs w b 0 0 0 ∨ Hs w b 1 0 256
theorem Hh.near {w w' : World} {b b2 : Nat} (h : Hh w b) (m : Near b2 w w') (hne : b ≠ b2) : Hh w' b := h.imp (fun h => h.near m hne) (fun h => h.near m hne)
theorem Hh.below {w w' : World} {b B : Nat} (h : Hh w b) (m : Below B w w') (hlt : b < B) : Hh w' b := h.imp (fun h => h.below m hlt) (fun h => h.below m hlt)
theorem Hh.lt {w : World} {b : Nat} (h : Hh w b) : b < w.heap.size := h.elim (fun h => h.lt) (fun h => h.lt)
theorem do_c (w : World) (b : Nat) (h : Hh w b) :
    Calls Try.prog 39 #[.pointer (some ⟨b, 0, none⟩), .func (.func 40) #[.pointer (some ⟨b, 0, none⟩)] #[]] w fun e w' => e = .returned (.tuple #[]) ∧ Hs w' b 1 0 256 ∧ Near b w w' := by
  rcases h with h | h
  · have H := Aside0.mk h
    clear h
    go_enter Try.func39, Try.ntmps39
    go_wp2_with (first
      | (go_at_call 42; with_reducible refine (loadB _ 0 _ H.out.done).mono ?_; rintro e w2 ⟨rfl, rfl⟩)
      | (go_at_call 43; with_reducible refine (slow_c _ b H.out).mono ?_; rintro e w2 ⟨rfl, h2, n2⟩; have H2 := Aside0.mk h2; have N2 := Aside0.mk n2; clear h2 n2))
    go_end0
    exact ⟨rfl, H2.out, N2.out⟩
  · have H := Aside0.mk h
    clear h
    go_enter Try.func39, Try.ntmps39
    go_wp2_with (first
      | (go_at_call 42; with_reducible refine (loadB _ 1 _ H.out.done).mono ?_; rintro e w2 ⟨rfl, rfl⟩))
    go_end0
    exact ⟨rfl, H.out, Near.refl _ _⟩
/-- A row of bytes that is read. -/
def Bytes (w : World) (a : Option Addr) (len : Nat) (l : List Nat) : Prop :=
  l.length = len ∧ len ≤ 9223372036854775807 ∧ (∀ x ∈ l, x < 256) ∧ (0 < len → ∃ ad, a = some ad ∧ ∀ i, i < len → w.cell? (ad.add i) = some (.int .u8 (l.getD i 0 : Nat)))
theorem Bytes.at {w : World} {a : Option Addr} {len : Nat} {l : List Nat} (h : Bytes w a len l) {i : Nat} (hi : i < len) : ∃ ad, a = some ad ∧ w.cell? (ad.add i) = some (.int .u8 (l.getD i 0 : Nat)) := by
  obtain ⟨ad, h1, h2⟩ := h.2.2.2 (by omega)
  exact ⟨ad, h1, h2 i hi⟩
theorem add_block (ad : Addr) (i : Nat) : (ad.add i).block = ad.block := by unfold Addr.add; split <;> rfl
theorem Bytes.near {w w' : World} {a : Option Addr} {len : Nat} {l : List Nat} {b : Nat} (h : Bytes w a len l) (n : Near b w w') (hne : ∀ ad, a = some ad → 0 < len → ad.block ≠ b) : Bytes w' a len l := by
  refine ⟨h.1, h.2.1, h.2.2.1, fun hp => ?_⟩
  obtain ⟨ad, h1, h2⟩ := h.2.2.2 hp
  refine ⟨ad, h1, fun i hi => ?_⟩
  have h3 := h2 i hi
  have hlt := World.block_lt_of_cell? w _ h3
  rw [← h3]
  exact World.cell?_of_block (w := w) (n.block _ hlt (by rw [add_block]; exact hne ad h1 hp))
theorem Bytes.below {w w' : World} {a : Option Addr} {len : Nat} {l : List Nat} (h : Bytes w a len l) (n : Below w.heap.size w w') : Bytes w' a len l := by
  refine ⟨h.1, h.2.1, h.2.2.1, fun hp => ?_⟩
  obtain ⟨ad, h1, h2⟩ := h.2.2.2 hp
  refine ⟨ad, h1, fun i hi => ?_⟩
  have h3 := h2 i hi
  exact (n.cell (World.block_lt_of_cell? w _ h3)).trans h3
theorem Bytes.lt {w : World} {a : Option Addr} {len : Nat} {l : List Nat} (h : Bytes w a len l) : ∀ ad, a = some ad → 0 < len → ad.block < w.heap.size := by
  intro ad ha hp
  obtain ⟨ad', h1, h2⟩ := h.2.2.2 hp
  rw [ha] at h1
  obtain rfl : ad = ad' := Option.some.inj h1
  have h3 := World.block_lt_of_cell? w _ (h2 0 hp)
  rw [add_block] at h3
  exact h3
theorem byte_at {l : List Nat} (h : ∀ x ∈ l, x < 256) (i : Nat) : l.getD i 0 < 256 := by
  rw [List.getD_eq_getElem?_getD]
  cases e : l[i]? with
  | none => show 0 < 256; decide
  | some x => exact h x (List.mem_of_getElem? e)
theorem crc_take (c : Nat) (l : List Nat) (j : Nat) (hj : j < l.length) : crc c (l.take (j + 1)) = stp (crc c (l.take j)) (l.getD j 0) := by
  rw [List.take_add_one, crc_append, List.getElem?_eq_getElem hj, List.getD_eq_getElem?_getD, List.getElem?_eq_getElem hj]
  rfl
set_option maxRecDepth 100000 in
set_option maxHeartbeats 4000000 in
theorem more_c (w : World) (b : Nat) (h : Hh w b) (c0 : Nat) (a : Option Addr) (cap len : Nat) (l : List Nat) (hl : Bytes w a len l) (hne : ∀ ad, a = some ad → 0 < len → ad.block ≠ b) (hc0 : c0 < 65536) :
    Calls Try.prog 36 #[.pointer (some ⟨b, 0, none⟩), .int .i64 c0, .slice a len cap] w fun e w' => e = .returned (.int .i64 (crc c0 l : Nat)) ∧ Hh w' b ∧ Near b w w' := by
  have H := Aside0.mk h
  have HL := Aside0.mk hl
  have HE := Aside0.mk hne
  have hlen := hl.2.1
  clear h hl hne
  go_enter Try.func36, Try.ntmps36
  go_wp2_with (go_at_call 39; with_reducible refine (do_c _ b H.out).mono ?_; rintro e w1 ⟨rfl, h2, n2⟩; have H2 := Aside0.mk h2; have N2 := Aside0.mk n2; clear h2 n2 H)
  have HB := Aside0.mk (HL.out.near N2.out HE.out)
  go_loopw [7, 20] (fun c i wr => ∃ j : Nat, j ≤ len ∧ i = .int .i64 j ∧ c = .int .u16 (crc c0 (l.take j) : Nat) ∧ wr = w1) (fun _ i _ => len - (intOf i).toNat)
  case atStart => exact ⟨0, by omega, rfl, rfl, rfl⟩
  case round =>
    obtain ⟨j, hj, rfl, rfl, rfl⟩ := hrel
    have hcl := crc_lt (l.take j) c0 hc0 (fun x hx => HB.out.2.2.1 x (List.mem_of_mem_take hx))
    by_cases hlt : j < len
    · have hlt2 : (j : Int) < len := by omega
      obtain ⟨ad, rfl, hcell⟩ := HB.out.at hlt
      have hs := crc_take c0 l j (by rw [HB.out.1]; exact hlt)
      obtain ⟨c, hc⟩ : ∃ c, crc c0 (l.take j) = c := ⟨_, rfl⟩
      have hx := byte_at HB.out.2.2.1 j
      obtain ⟨x, hxe⟩ : ∃ x, l.getD j 0 = x := ⟨_, rfl⟩
      rw [hc] at hcl hs ⊢
      rw [hxe] at hs hx hcell
      have HS := Aside0.mk hs
      clear hs hc hxe
      have ht : (c / 256) ^^^ x < 256 := xor_lt 8 (by show c / 256 < 256; omega) hx
      have h8 : bits .xor .u8 ((c : Int) / 256) (x : Int) = (((c / 256) ^^^ x : Nat) : Int) := by
        rw [← xor8 (c / 256) x (by omega) hx]
        push_cast
        rfl
      have hT := H2.out.tabs _ ht
      rw [if_pos ht] at hT
      have hstp : bits .xor .u16 (IntKind.u16.wrap ((c : Int) * 256)) (tab ((c / 256) ^^^ x) : Nat) = ((stp c x : Nat) : Int) := by
        rw [wrap_u16, show (c : Int) * 256 % 65536 = ((c * 256 % 65536 : Nat) : Int) by omega, xor16 _ _ (Nat.mod_lt _ (by decide)) (tab_lt _ ht)]
        rfl
      have HST := Aside0.mk hstp
      clear hstp
      obtain ⟨t, hte⟩ : ∃ t, (c / 256) ^^^ x = t := ⟨_, rfl⟩
      rw [hte] at ht h8 hT HST
      clear hte
      go_wp2
      exact ⟨⟨j + 1, by omega, by go_num, by rw [HST.out, HS.out], trivial⟩, by simp [intOf]; omega⟩
    · have hge : (len : Int) ≤ j := by omega
      have e : j = len := by omega
      rw [List.take_of_length_le (by have := HB.out.1; omega)] at hcl ⊢
      obtain ⟨c, hc⟩ : ∃ c, crc c0 l = c := ⟨_, rfl⟩
      rw [hc] at hcl ⊢
      have HC := Aside0.mk hc
      clear hc
      go_wp2
      go_ret
      exact ⟨by rw [HC.out]; rfl, .inr H2.out, N2.out⟩
theorem sum_c (w : World) (b : Nat) (h : Hh w b) (a : Option Addr) (cap len : Nat) (l : List Nat) (hl : Bytes w a len l) (hne : ∀ ad, a = some ad → 0 < len → ad.block ≠ b) :
    Calls Try.prog 22 #[.pointer (some ⟨b, 0, none⟩), .slice a len cap] w fun e w' => e = .returned (.int .i64 (crc 0 l : Nat)) ∧ Hh w' b ∧ Near b w w' := by
  have HM := Aside0.mk (more_c w b h 0 a cap len l hl hne (by decide))
  clear h hl hne
  go_enter Try.func22, Try.ntmps22
  go_wp2_with (go_at_call 36; refine HM.out.mono ?_; rintro e w1 ⟨rfl, hh, hn⟩; have H1 := Aside0.mk (And.intro hh hn); clear hh hn)
  go_ret
  exact ⟨rfl, H1.out⟩
set_option maxRecDepth 100000 in
set_option maxHeartbeats 4000000 in
/-- The document's sum. -/
theorem ref_sum_c (w : World) (a : Option Addr) (cap len : Nat) (l : List Nat) (hl : Bytes w a len l) :
    Calls Try.prog 33 #[.slice a len cap] w fun e w' => e = .returned (.int .i64 (crc 0 l : Nat)) ∧ w' = w := by
  have HL := Aside0.mk hl
  have hlen := hl.2.1
  clear hl
  obtain ⟨w0, hw0⟩ : ∃ w0, w0 = w := ⟨_, rfl⟩
  subst hw0
  go_enter Try.func33, Try.ntmps33
  go_wp2
  go_loopw [3, 4] (fun c i wr => ∃ j : Nat, j ≤ len ∧ i = .int .i64 j ∧ c = .int .i64 (crc 0 (l.take j) : Nat) ∧ wr = w0) (fun _ i _ => len - (intOf i).toNat)
  case atStart => exact ⟨0, by omega, rfl, rfl, rfl⟩
  case round =>
    obtain ⟨j, hj, rfl, rfl, rfl⟩ := hrel
    have hcl := crc_lt (l.take j) 0 (by decide) (fun x hx => HL.out.2.2.1 x (List.mem_of_mem_take hx))
    by_cases hlt : j < len
    · have hlt2 : (j : Int) < len := by omega
      obtain ⟨ad, rfl, hcell⟩ := HL.out.at hlt
      have hs := crc_take 0 l j (by rw [HL.out.1]; exact hlt)
      obtain ⟨c, hc⟩ : ∃ c, crc 0 (l.take j) = c := ⟨_, rfl⟩
      have hx := byte_at HL.out.2.2.1 j
      obtain ⟨x, hxe⟩ : ∃ x, l.getD j 0 = x := ⟨_, rfl⟩
      rw [hc] at hcl hs ⊢
      rw [hxe] at hs hx hcell
      rw [← by_bits c x hcl hx] at hs
      have HS := Aside0.mk hs
      clear hs hc hxe
      have h64 : bits .xor .i64 (c : Int) ((x : Int) * 256) = ((c ^^^ (x * 256) : Nat) : Int) := by
        rw [← xor64 c (x * 256) hcl (by omega)]
        push_cast
        rfl
      have hc1 : c ^^^ (x * 256) < 65536 := xor_lt 16 hcl (by show x * 256 < 65536; omega)
      obtain ⟨d, hd⟩ : ∃ d, c ^^^ (x * 256) = d := ⟨_, rfl⟩
      rw [hd] at h64 hc1 HS
      clear hd
      go_wp2
      obtain ⟨w1, hw1⟩ : ∃ w1, w1 = wr := ⟨_, rfl⟩
      subst hw1
      go_loopw [3, 5] (fun c i wr => ∃ m : Nat, m ≤ 8 ∧ i = .int .i64 m ∧ c = .int .i64 (bsn m d : Nat) ∧ wr = w1) (fun _ i _ => 8 - (intOf i).toNat)
      case atStart => exact ⟨0, by omega, rfl, rfl, rfl⟩
      case round =>
        obtain ⟨m, hm, rfl, rfl, rfl⟩ := hrel
        by_cases hlt3 : m < 8
        · have hlt4 : (m : Int) < 8 := by omega
          have hb := bsn_lt m d hc1
          have hs := bsn_succ m d
          obtain ⟨q, hq⟩ : ∃ q, bsn m d = q := ⟨_, rfl⟩
          rw [hq] at hb hs ⊢
          have HQ := Aside0.mk hs
          clear hs hq
          by_cases ht : 32768 ≤ q
          · have ht2 : (32768 : Int) ≤ q := by omega
            go_wp2
            refine ⟨⟨m + 1, by omega, by go_num, ?_, trivial⟩, by simp [intOf]; omega⟩
            rw [HQ.out, bs_high64 q ht hb]
          · have HT2 := Aside0.mk ht
            have ht2 : ¬ (32768 : Int) ≤ q := by omega
            have hov : -9223372036854775808 ≤ (q : Int) * 2 := by omega
            have hov2 : (q : Int) * 2 ≤ 9223372036854775807 := by omega
            go_upto_region 11 with fail
            go_wp2
            refine ⟨⟨m + 1, by omega, by go_num, ?_, trivial⟩, by simp [intOf]; omega⟩
            rw [HQ.out, bs_low q HT2.out]
            push_cast
            rfl
        · have hge : 8 ≤ (m : Int) := by omega
          have e8 : m = 8 := by omega
          have hq := HS.out
          rw [← e8] at hq
          rw [← hq]
          go_wp2
          exact ⟨⟨j + 1, by omega, by go_num, rfl, trivial⟩, by simp [intOf]; omega⟩
    · have hge : (len : Int) ≤ j := by omega
      have e : j = len := by omega
      rw [List.take_of_length_le (by have := HL.out.1; omega)] at hcl ⊢
      go_wp2
      go_ret
      exact ⟨rfl, rfl⟩
end Go.Proofs.Ytldiipomcenbkaa.HandS
