/- Close and Closed, by hand: sync.Once in one goroutine, the lock free. -/
import Derived.Test.YtblibjnhldocaaaHandL
namespace Go.Proofs.Ytblibjnhldocaaa.HandM
open Go.RowKit
set_option linter.unusedVariables false
set_option linter.unusedSimpArgs false
theorem disable (w : World) : (callFunc 39 #[]).run Try.prog w = .ok (.value (.tuple #[])) w := run_call_mark0 Try.func39 (by kernel_rfl) (by kernel_rfl) (by kernel_rfl) .disable (by kernel_rfl) w
theorem enable (w : World) : (callFunc 41 #[]).run Try.prog w = .ok (.value (.tuple #[])) w := run_call_mark0 Try.func41 (by kernel_rfl) (by kernel_rfl) (by kernel_rfl) .enable (by kernel_rfl) w
theorem acquire (a : Addr) (w : World) : (callFunc 42 #[.pointer (some a)]).run Try.prog w = .ok (.value (.tuple #[])) w := run_call_marked Try.func42 (by kernel_rfl) (by kernel_rfl) (by kernel_rfl) .acquire (by kernel_rfl) a w
theorem releaseMerge (a : Addr) (w : World) : (callFunc 44 #[.pointer (some a)]).run Try.prog w = .ok (.value (.tuple #[])) w := run_call_marked Try.func44 (by kernel_rfl) (by kernel_rfl) (by kernel_rfl) .releaseMerge (by kernel_rfl) a w
theorem store_deferred (a : Addr) (x : Value) (u : FrameMode) (w : World) (hc : w.cell? a = some x) (hz : w.frozen? a = false) :
    CallsD Try.prog 26 #[.pointer (some a), .bool true] u w fun e u' w' => u' = u ∧ (e = .returned (.tuple #[]) ∧ w' = w.drew.setCell a (.int .u32 1)) := by
  have hc' : w.drew.cell? a = some x := by go_simp
  have hz' : w.drew.frozen? a = false := by go_simp
  have hst := run_call_store (P := Try.prog) Try.func32 (by kernel_rfl) (by kernel_rfl) (by kernel_rfl) (by kernel_rfl) (k := .u32) (y := 1) hc' hz'
  go_enter_d Try.func26, Try.ntmps26
  go_wp2
  go_region_calls
  all_goals (go_end0; exact ⟨rfl, rfl⟩)
theorem storeB (a : Addr) (x : Value) (w : World) (hc : w.cell? a = some x) (hz : w.frozen? a = false) :
    Calls Try.prog 26 #[.pointer (some a), .bool true] w fun e w' => e = .returned (.tuple #[]) ∧ w' = w.drew.setCell a (.int .u32 1) := by
  have hc' : w.drew.cell? a = some x := by go_simp
  have hz' : w.drew.frozen? a = false := by go_simp
  have hst := run_call_store (P := Try.prog) Try.func32 (by kernel_rfl) (by kernel_rfl) (by kernel_rfl) (by kernel_rfl) (k := .u32) (y := 1) hc' hz'
  go_enter Try.func26, Try.ntmps26
  go_wp2
  go_region_calls
  all_goals (go_end0; exact ⟨rfl, rfl⟩)
theorem store64 (a : Addr) (x : Value) (y : Int) (w : World) (hc : w.cell? a = some x) (hz : w.frozen? a = false) :
    Calls Try.prog 25 #[.pointer (some a), .int .i64 y] w fun e w' => e = .returned (.tuple #[]) ∧ w' = w.setCell a (.int .i64 y) := by
  have hst := run_call_store (P := Try.prog) Try.func31 (by kernel_rfl) (by kernel_rfl) (by kernel_rfl) (by kernel_rfl) (k := .i64) (y := y) hc hz
  go_enter Try.func25, Try.ntmps25
  go_wp2
  go_end0
  exact ⟨rfl, rfl⟩
theorem unlock_deferred (a : Addr) (u : FrameMode) (w : World) (hc : w.cell? a = some (.int .i32 1)) (hz : w.frozen? a = false) :
    CallsD Try.prog 36 #[.pointer (some a)] u w fun e u' w' => u' = u ∧ (e = .returned (.tuple #[]) ∧ w' = w.setCell a (.int .i32 0)) := by
  have hd := disable
  have he := enable
  have hr := releaseMerge
  have hadd := run_call_add (P := Try.prog) Try.func45 (by kernel_rfl) (by kernel_rfl) (by kernel_rfl) .i32 (by kernel_rfl) (y := -1) (s := 0) hc hz (by simp [go_sem]; rfl)
  have hcv := run_convert_to_unsafe (P := Try.prog) (src := 80) (dst := 84) Try.underlying80 Try.underlying84 (by kernel_rfl) hc
  go_enter_d Try.func36, Try.ntmps36
  go_wp2
  go_end0
  go_wp2
  go_end0
  exact ⟨rfl, rfl⟩
theorem lock_free (a : Addr) (w : World) (hc : w.cell? a = some (.int .i32 0)) (hz : w.frozen? a = false) :
    Calls Try.prog 35 #[.pointer (some a)] w fun e w' => e = .returned (.tuple #[]) ∧ w' = w.setCell a (.int .i32 1) := by
  have hd := disable
  have he := enable
  have ha := acquire
  have hcas := run_call_cas_hit (P := Try.prog) Try.func40 (by kernel_rfl) (by kernel_rfl) (by kernel_rfl) .i32 (by kernel_rfl) (y := 1) hc hz
  have hc' : (w.setCell a (.int .i32 1)).cell? a = some (.int .i32 1) := World.cell?_setCell_same w a _ hc
  have hcv := run_convert_to_unsafe (P := Try.prog) (src := 80) (dst := 84) Try.underlying80 Try.underlying84 (by kernel_rfl) hc'
  go_enter Try.func35, Try.ntmps35
  go_wp2
  first | go_end0 | (simp only [Exit.inBlock, Exit.then]; refine bodyPost_ret (results_none rfl _ _ _) rfl ?_) | refine bodyPost_ret (results_none rfl _ _ _) rfl ?_
  go_wp2
  go_end0
  exact ⟨rfl, rfl⟩
/-- The state within Close: the meter in block b; beyond m the call's own cells: 'first' (x), the meter's address, the reason (r). -/
structure St (w0 : World) (m b : Nat) (cs : List Int) (hi : Int) (pf pm pr : Nat) (r : Int) (w : World) (dn lk cl rs : Int) (x : Bool) : Prop where
  len : cs.length = 16
  lt : b < m
  size : w0.heap.size ≤ w.heap.size
  sm : m ≤ w.heap.size
  count : ∀ k, k < 16 → w.cell? ⟨b, k, none⟩ = some (.int .i64 (cs.getD k 0))
  high : w.cell? ⟨b, 16, none⟩ = some (.int .i64 hi)
  done : w.cell? ⟨b, 17, none⟩ = some (.int .u32 dn)
  lock : w.cell? ⟨b, 18, none⟩ = some (.int .i32 lk)
  closed : w.cell? ⟨b, 20, none⟩ = some (.int .u32 cl)
  why : w.cell? ⟨b, 21, none⟩ = some (.int .i64 rs)
  free : ∀ k, w.frozen? ⟨b, k, none⟩ = false
  hf : m ≤ pf
  hm : m ≤ pm
  hr : m ≤ pr
  fm : pf ≠ pm
  fr : pf ≠ pr
  cf : w.cell? ⟨pf, 0, none⟩ = some (.bool x)
  cm : w.cell? ⟨pm, 0, none⟩ = some (.pointer (some ⟨b, 0, none⟩))
  cr : w.cell? ⟨pr, 0, none⟩ = some (.int .i64 r)
  ff : w.frozen? ⟨pf, 0, none⟩ = false
  os : w.os = w0.os
  tape : w.tape = w0.tape
  output : w.output = w0.output
  block : ∀ k, k < m → k ≠ b → w.heap[k]? = w0.heap[k]?
section
variable {w0 : World} {m b : Nat} {cs : List Int} {hi : Int} {pf pm pr : Nat} {r : Int} {w : World} {dn lk cl rs : Int} {x : Bool}
theorem St.drew (h : St w0 m b cs hi pf pm pr r w dn lk cl rs x) : St w0 m b cs hi pf pm pr r w.drew dn lk cl rs x :=
  ⟨h.len, h.lt, h.size, h.sm, h.count, h.high, h.done, h.lock, h.closed, h.why, h.free, h.hf, h.hm, h.hr, h.fm, h.fr, h.cf, h.cm, h.cr, h.ff, h.os, h.tape, h.output, h.block⟩
theorem blk {i j k l : Nat} (h : i ≠ k) : (⟨i, j, none⟩ : Addr) ≠ ⟨k, l, none⟩ := fun e => h (by injection e)
theorem St.setDone (h : St w0 m b cs hi pf pm pr r w dn lk cl rs x) (v : Int) : St w0 m b cs hi pf pm pr r (w.setCell ⟨b, 17, none⟩ (.int .u32 v)) v lk cl rs x := by
  have hc : ∀ i, 17 ≠ i → (w.setCell ⟨b, 17, none⟩ (.int .u32 v)).cell? ⟨b, i, none⟩ = w.cell? ⟨b, i, none⟩ := fun i hi => World.cell?_setCell_other _ _ _ _ (other hi)
  have hp : ∀ p, m ≤ p → (w.setCell ⟨b, 17, none⟩ (.int .u32 v)).cell? ⟨p, 0, none⟩ = w.cell? ⟨p, 0, none⟩ := fun p hp => World.cell?_setCell_other _ _ _ _ (blk (by have := h.lt; omega))
  exact ⟨h.len, h.lt, by rw [World.size_setCell]; exact h.size, by rw [World.size_setCell]; exact h.sm, fun k hk => (hc k (by omega)).trans (h.count k hk), (hc _ (by decide)).trans h.high, World.cell?_setCell_same _ _ _ h.done, (hc _ (by decide)).trans h.lock, (hc _ (by decide)).trans h.closed, (hc _ (by decide)).trans h.why, fun k => by rw [World.frozen?_setCell]; exact h.free k, h.hf, h.hm, h.hr, h.fm, h.fr, (hp _ h.hf).trans h.cf, (hp _ h.hm).trans h.cm, (hp _ h.hr).trans h.cr, by rw [World.frozen?_setCell]; exact h.ff, h.os, h.tape, h.output, fun k hk hb => (Below.heap_setCell _ _ _ _ hb).trans (h.block k hk hb)⟩
theorem St.setLock (h : St w0 m b cs hi pf pm pr r w dn lk cl rs x) (v : Int) : St w0 m b cs hi pf pm pr r (w.setCell ⟨b, 18, none⟩ (.int .i32 v)) dn v cl rs x := by
  have hc : ∀ i, 18 ≠ i → (w.setCell ⟨b, 18, none⟩ (.int .i32 v)).cell? ⟨b, i, none⟩ = w.cell? ⟨b, i, none⟩ := fun i hi => World.cell?_setCell_other _ _ _ _ (other hi)
  have hp : ∀ p, m ≤ p → (w.setCell ⟨b, 18, none⟩ (.int .i32 v)).cell? ⟨p, 0, none⟩ = w.cell? ⟨p, 0, none⟩ := fun p hp => World.cell?_setCell_other _ _ _ _ (blk (by have := h.lt; omega))
  exact ⟨h.len, h.lt, by rw [World.size_setCell]; exact h.size, by rw [World.size_setCell]; exact h.sm, fun k hk => (hc k (by omega)).trans (h.count k hk), (hc _ (by decide)).trans h.high, (hc _ (by decide)).trans h.done, World.cell?_setCell_same _ _ _ h.lock, (hc _ (by decide)).trans h.closed, (hc _ (by decide)).trans h.why, fun k => by rw [World.frozen?_setCell]; exact h.free k, h.hf, h.hm, h.hr, h.fm, h.fr, (hp _ h.hf).trans h.cf, (hp _ h.hm).trans h.cm, (hp _ h.hr).trans h.cr, by rw [World.frozen?_setCell]; exact h.ff, h.os, h.tape, h.output, fun k hk hb => (Below.heap_setCell _ _ _ _ hb).trans (h.block k hk hb)⟩
theorem St.setClosed (h : St w0 m b cs hi pf pm pr r w dn lk cl rs x) (v : Int) : St w0 m b cs hi pf pm pr r (w.setCell ⟨b, 20, none⟩ (.int .u32 v)) dn lk v rs x := by
  have hc : ∀ i, 20 ≠ i → (w.setCell ⟨b, 20, none⟩ (.int .u32 v)).cell? ⟨b, i, none⟩ = w.cell? ⟨b, i, none⟩ := fun i hi => World.cell?_setCell_other _ _ _ _ (other hi)
  have hp : ∀ p, m ≤ p → (w.setCell ⟨b, 20, none⟩ (.int .u32 v)).cell? ⟨p, 0, none⟩ = w.cell? ⟨p, 0, none⟩ := fun p hp => World.cell?_setCell_other _ _ _ _ (blk (by have := h.lt; omega))
  exact ⟨h.len, h.lt, by rw [World.size_setCell]; exact h.size, by rw [World.size_setCell]; exact h.sm, fun k hk => (hc k (by omega)).trans (h.count k hk), (hc _ (by decide)).trans h.high, (hc _ (by decide)).trans h.done, (hc _ (by decide)).trans h.lock, World.cell?_setCell_same _ _ _ h.closed, (hc _ (by decide)).trans h.why, fun k => by rw [World.frozen?_setCell]; exact h.free k, h.hf, h.hm, h.hr, h.fm, h.fr, (hp _ h.hf).trans h.cf, (hp _ h.hm).trans h.cm, (hp _ h.hr).trans h.cr, by rw [World.frozen?_setCell]; exact h.ff, h.os, h.tape, h.output, fun k hk hb => (Below.heap_setCell _ _ _ _ hb).trans (h.block k hk hb)⟩
theorem St.setWhy (h : St w0 m b cs hi pf pm pr r w dn lk cl rs x) (v : Int) : St w0 m b cs hi pf pm pr r (w.setCell ⟨b, 21, none⟩ (.int .i64 v)) dn lk cl v x := by
  have hc : ∀ i, 21 ≠ i → (w.setCell ⟨b, 21, none⟩ (.int .i64 v)).cell? ⟨b, i, none⟩ = w.cell? ⟨b, i, none⟩ := fun i hi => World.cell?_setCell_other _ _ _ _ (other hi)
  have hp : ∀ p, m ≤ p → (w.setCell ⟨b, 21, none⟩ (.int .i64 v)).cell? ⟨p, 0, none⟩ = w.cell? ⟨p, 0, none⟩ := fun p hp => World.cell?_setCell_other _ _ _ _ (blk (by have := h.lt; omega))
  exact ⟨h.len, h.lt, by rw [World.size_setCell]; exact h.size, by rw [World.size_setCell]; exact h.sm, fun k hk => (hc k (by omega)).trans (h.count k hk), (hc _ (by decide)).trans h.high, (hc _ (by decide)).trans h.done, (hc _ (by decide)).trans h.lock, (hc _ (by decide)).trans h.closed, World.cell?_setCell_same _ _ _ h.why, fun k => by rw [World.frozen?_setCell]; exact h.free k, h.hf, h.hm, h.hr, h.fm, h.fr, (hp _ h.hf).trans h.cf, (hp _ h.hm).trans h.cm, (hp _ h.hr).trans h.cr, by rw [World.frozen?_setCell]; exact h.ff, h.os, h.tape, h.output, fun k hk hb => (Below.heap_setCell _ _ _ _ hb).trans (h.block k hk hb)⟩
theorem St.setFirst (h : St w0 m b cs hi pf pm pr r w dn lk cl rs x) (v : Bool) : St w0 m b cs hi pf pm pr r (w.setCell ⟨pf, 0, none⟩ (.bool v)) dn lk cl rs v := by
  have hc : ∀ i, (w.setCell ⟨pf, 0, none⟩ (.bool v)).cell? ⟨b, i, none⟩ = w.cell? ⟨b, i, none⟩ := fun i => World.cell?_setCell_other _ _ _ _ (blk (by have := h.lt; have := h.hf; omega))
  have hp : ∀ p, pf ≠ p → (w.setCell ⟨pf, 0, none⟩ (.bool v)).cell? ⟨p, 0, none⟩ = w.cell? ⟨p, 0, none⟩ := fun p hp => World.cell?_setCell_other _ _ _ _ (blk hp)
  exact ⟨h.len, h.lt, by rw [World.size_setCell]; exact h.size, by rw [World.size_setCell]; exact h.sm, fun k hk => (hc k).trans (h.count k hk), (hc _).trans h.high, (hc _).trans h.done, (hc _).trans h.lock, (hc _).trans h.closed, (hc _).trans h.why, fun k => by rw [World.frozen?_setCell]; exact h.free k, h.hf, h.hm, h.hr, h.fm, h.fr, World.cell?_setCell_same _ _ _ h.cf, (hp _ h.fm).trans h.cm, (hp _ h.fr).trans h.cr, by rw [World.frozen?_setCell]; exact h.ff, h.os, h.tape, h.output, fun k hk hb => (Below.heap_setCell _ _ _ _ (by have := h.hf; show k ≠ pf; omega)).trans (h.block k hk hb)⟩
end
end Go.Proofs.Ytblibjnhldocaaa.HandM
