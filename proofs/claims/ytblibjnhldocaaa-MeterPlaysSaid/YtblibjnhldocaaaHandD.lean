/- Close and Closed, joined. -/
import Derived.Test.YtblibjnhldocaaaHandC
import Derived.Deep.RegionWith
namespace Go.Proofs.Ytblibjnhldocaaa.HandM
open Go.RowKit
set_option linter.unusedVariables false
set_option linter.unusedSimpArgs false
set_option maxRecDepth 100000 in
set_option maxHeartbeats 4000000 in
/-- The function that Close hands to Do. -/
theorem closure_c (w0 : World) (m b : Nat) (cs : List Int) (hi : Int) (pf pm pr : Nat) (r : Int) (w : World) (dn lk cl rs : Int) (x : Bool) (h : St w0 m b cs hi pf pm pr r w dn lk cl rs x) :
    Calls Try.prog 24 #[.pointer (some ⟨pf, 0, none⟩), .pointer (some ⟨pm, 0, none⟩), .pointer (some ⟨pr, 0, none⟩)] w fun e w' => e = .returned (.tuple #[]) ∧ St w0 m b cs hi pf pm pr r w' dn lk 1 r true := by
  have H := Aside0.mk h
  have c1 := h.cf
  have c2 := (h.setFirst true).cm
  have c3 := (h.setFirst true).cr
  have f1 := h.ff
  have c4 := (((h.setFirst true).drew).setWhy r).cm
  have HS := Aside0.mk (store64 ⟨b, 21, none⟩ (.int .i64 rs) r _ ((h.setFirst true).drew).why (((h.setFirst true).drew).free 21))
  clear h
  go_enter Try.func24, Try.ntmps24
  go_wp2
  go_region_with (go_at_call 25; with_reducible refine HS.out.mono ?_; rintro e w1 ⟨rfl, rfl⟩)
  all_goals (go_wp2_with (go_at_call 26; refine (storeB ⟨b, 20, none⟩ (.int .u32 cl) _ (((H.out.setFirst true).drew).setWhy r).closed ((((H.out.setFirst true).drew).setWhy r).free 20)).mono ?_; rintro e w1 ⟨rfl, rfl⟩))
  all_goals (go_end0; exact ⟨rfl, (((((H.out.setFirst true).drew).setWhy r).drew).setClosed 1)⟩)
set_option maxRecDepth 100000 in
set_option maxHeartbeats 4000000 in
theorem slow_c (w0 : World) (m b : Nat) (cs : List Int) (hi : Int) (pf pm pr : Nat) (r : Int) (w : World) (cl rs : Int) (x : Bool) (h : St w0 m b cs hi pf pm pr r w 0 0 cl rs x) :
    Calls Try.prog 30 #[.pointer (some ⟨b, 17, none⟩), .func (.func 24) #[] #[.pointer (some ⟨pf, 0, none⟩), .pointer (some ⟨pm, 0, none⟩), .pointer (some ⟨pr, 0, none⟩)]] w fun e w' => e = .returned (.tuple #[]) ∧ St w0 m b cs hi pf pm pr r w' 1 0 1 r true := by
  have h1 := h.lock
  have f1 := h.free 18
  have H := Aside0.mk h
  clear h
  go_enter_defers Try.func30, Try.ntmps30
  go_wp2_with (first
    | (go_at_call 35; with_reducible refine (lock_free ⟨b, 18, none⟩ _ h1 f1).mono ?_; rintro e w1 ⟨rfl, hw⟩; have H1 := Aside0.mk (hw ▸ H.out.setLock 1 : St w0 m b cs hi pf pm pr r w1 0 1 cl rs x); clear hw H h1 f1)
    | (go_at_call 18; with_reducible refine (loadB _ 0 _ H1.out.done).mono ?_; rintro e w2 ⟨rfl, rfl⟩)
    | (go_at_call 24; with_reducible refine (closure_c w0 m b cs hi pf pm pr r _ 0 1 cl rs x H1.out).mono ?_; rintro e w2 ⟨rfl, h2⟩; have H2 := Aside0.mk h2; clear h2 H1))
  go_wp2
  refine leaves_cons (f := 26) (args := #[.pointer (some ⟨b, 17, none⟩), .bool true]) (by simp) (by simp [go_sem]) ?_
  refine (store_deferred ⟨b, 17, none⟩ (.int .u32 0) .returning _ H2.out.done (H2.out.free 17)).mono ?_
  rintro e u' w'' ⟨rfl, rfl, rfl⟩
  have H3 := Aside0.mk (H2.out.drew.setDone 1)
  refine leaves_cons (f := 36) (args := #[.pointer (some ⟨b, 18, none⟩)]) (by simp [settle]) (by simp [go_sem]) ?_
  refine (unlock_deferred ⟨b, 18, none⟩ _ _ H3.out.lock (H3.out.free 18)).mono ?_
  rintro e u' w'' ⟨rfl, rfl, rfl⟩
  have H4 := Aside0.mk (H3.out.setLock 0)
  simp [Leaves, settle, results, Try.results30]
  exact H4.out
theorem do_first (w0 : World) (m b : Nat) (cs : List Int) (hi : Int) (pf pm pr : Nat) (r : Int) (w : World) (cl rs : Int) (x : Bool) (h : St w0 m b cs hi pf pm pr r w 0 0 cl rs x) :
    Calls Try.prog 23 #[.pointer (some ⟨b, 17, none⟩), .func (.func 24) #[] #[.pointer (some ⟨pf, 0, none⟩), .pointer (some ⟨pm, 0, none⟩), .pointer (some ⟨pr, 0, none⟩)]] w fun e w' => e = .returned (.tuple #[]) ∧ St w0 m b cs hi pf pm pr r w' 1 0 1 r true := by
  have H := Aside0.mk h
  clear h
  go_enter Try.func23, Try.ntmps23
  go_wp2_with (first
    | (go_at_call 18; with_reducible refine (loadB _ 0 _ H.out.done).mono ?_; rintro e w2 ⟨rfl, rfl⟩)
    | (go_at_call 30; with_reducible refine (slow_c w0 m b cs hi pf pm pr r _ cl rs x H.out).mono ?_; rintro e w2 ⟨rfl, h2⟩; have H2 := Aside0.mk h2; clear h2))
  go_end0
  exact ⟨rfl, H2.out⟩
theorem do_done (a : Addr) (fv : Value) (w : World) (h0 : w.cell? a = some (.int .u32 1)) :
    Calls Try.prog 23 #[.pointer (some a), fv] w fun e w' => e = .returned (.tuple #[]) ∧ w' = w := by
  have H := Aside0.mk h0
  clear h0
  go_enter Try.func23, Try.ntmps23
  go_wp2_with (go_at_call 18; with_reducible refine (loadB _ 1 _ H.out).mono ?_; rintro e w2 ⟨rfl, rfl⟩)
  go_end0
  exact ⟨rfl, rfl⟩
theorem closed_c (b : Nat) (cs : List Int) (hi cl rs : Int) (w : World) (h : Mt w b cs hi cl rs) (v : Bool) (hv : (cl != 0) = v) (x : Int) (hx : (if v = true then rs else 0) = x) :
    Calls Try.prog 17 #[.pointer (some ⟨b, 0, none⟩)] w fun e w' => e = .returned (.tuple #[.int .i64 x, .bool v]) ∧ w' = w := by
  have H := Aside0.mk h
  have HV := Aside0.mk hv
  clear h hv
  cases v with
  | false =>
    simp at hx
    subst hx
    go_enter Try.func17, Try.ntmps17
    go_wp2_with (go_at_call 18; with_reducible refine (loadB _ cl _ H.out.closed).mono ?_; rintro e w2 ⟨rfl, rfl⟩; rw [HV.out])
    go_ret2
    exact ⟨rfl, rfl⟩
  | true =>
    simp at hx
    subst hx
    go_enter Try.func17, Try.ntmps17
    go_wp2_with (first
      | (go_at_call 18; with_reducible refine (loadB _ cl _ H.out.closed).mono ?_; rintro e w2 ⟨rfl, rfl⟩; rw [HV.out])
      | (go_at_call 21; with_reducible refine (load64 _ rs _ H.out.why).mono ?_; rintro e w2 ⟨rfl, rfl⟩))
    go_ret2
    exact ⟨rfl, rfl⟩
theorem St.start {b : Nat} {cs : List Int} {hi cl rs : Int} {w : World} (h : Mt w b cs hi cl rs) (r : Int) :
    St w w.heap.size b cs hi (w.heap.size + 1 + 1) w.heap.size (w.heap.size + 1) r (((w.alloc (.cells #[.pointer (some ⟨b, 0, none⟩)] 24)).alloc (.cells #[.int .i64 r] 3)).alloc (.cells #[.bool false] 4)) cl 0 cl rs false := by
  have H := ((h.alloc (.cells #[.pointer (some ⟨b, 0, none⟩)] 24)).alloc (.cells #[.int .i64 r] 3)).alloc (.cells #[.bool false] 4)
  refine ⟨H.len, h.lt, by simp; omega, by simp; omega, H.count, H.high, H.done, H.lock, H.closed, H.why, H.free, by omega, by omega, by omega, by omega, by omega, ?_, ?_, ?_, ?_, rfl, rfl, rfl, fun k hk hb => ?_⟩
  · exact (World.cell?_alloc_at _ _ _ _ (by simp)).trans rfl
  · rw [World.cell?_alloc_past _ _ _ (by simp; omega), World.cell?_alloc_past _ _ _ (by simp)]
    exact (World.cell?_alloc_at _ _ _ _ (by simp)).trans rfl
  · rw [World.cell?_alloc_past _ _ _ (by simp)]
    exact (World.cell?_alloc_at _ _ _ _ (by simp)).trans rfl
  · exact World.frozen?_alloc_at _ _ _ _ (by simp)
  · exact (Below.heap_alloc _ _ _ (by simp; omega)).trans ((Below.heap_alloc _ _ _ (by simp; omega)).trans (Below.heap_alloc _ _ _ hk))
theorem St.mt {w0 : World} {m b : Nat} {cs : List Int} {hi : Int} {pf pm pr : Nat} {r : Int} {w : World} {cl rs : Int} {x : Bool} (h : St w0 m b cs hi pf pm pr r w cl 0 cl rs x) : Mt w b cs hi cl rs :=
  ⟨h.len, Nat.lt_of_lt_of_le h.lt h.sm, h.count, h.high, h.done, h.lock, h.closed, h.why, h.free⟩
theorem St.near {w0 : World} {b : Nat} {cs : List Int} {hi : Int} {pf pm pr : Nat} {r : Int} {w : World} {dn lk cl rs : Int} {x : Bool} (h : St w0 w0.heap.size b cs hi pf pm pr r w dn lk cl rs x) : Near b w0 w :=
  ⟨h.os, h.tape, h.output, h.size, h.block⟩
set_option maxRecDepth 100000 in
set_option maxHeartbeats 4000000 in
theorem close_first (b : Nat) (cs : List Int) (hi rs r : Int) (w : World) (h : Mt w b cs hi 0 rs) :
    Calls Try.prog 16 #[.pointer (some ⟨b, 0, none⟩), .int .i64 r] w fun e w' => e = .returned (.bool true) ∧ Mt w' b cs hi 1 r ∧ Near b w w' := by
  have HM := Aside0.mk (St.start h r)
  clear h
  go_enter Try.func16, Try.ntmps16
  go_wp2_with (go_at_call 23; with_reducible refine (do_first w w.heap.size b cs hi (w.heap.size + 1 + 1) w.heap.size (w.heap.size + 1) r _ 0 rs false HM.out).mono ?_; rintro e w2 ⟨rfl, h2⟩; have c := h2.cf; have H2 := Aside0.mk h2; clear h2)
  go_ret
  exact ⟨rfl, H2.out.mt, H2.out.near⟩
theorem close_again (b : Nat) (cs : List Int) (hi rs r : Int) (w : World) (h : Mt w b cs hi 1 rs) :
    Calls Try.prog 16 #[.pointer (some ⟨b, 0, none⟩), .int .i64 r] w fun e w' => e = .returned (.bool false) ∧ Mt w' b cs hi 1 rs ∧ Near b w w' := by
  have HM := Aside0.mk (St.start h r)
  clear h
  go_enter Try.func16, Try.ntmps16
  go_wp2_with (go_at_call 23; with_reducible refine (do_done ⟨b, 17, none⟩ _ _ HM.out.done).mono ?_; rintro e w2 ⟨rfl, hw⟩; have h2 := hw ▸ HM.out; have c := h2.cf; have H2 := Aside0.mk h2; clear h2 hw)
  go_ret
  exact ⟨rfl, H2.out.mt, H2.out.near⟩
theorem close_my (w0 : World) (b : Nat) (cs : List Int) (hi rs r : Int) (w : World) (h : My w0 w b cs hi 0 rs) :
    Calls Try.prog 16 #[.pointer (some ⟨b, 0, none⟩), .int .i64 r] w fun e w' => e = .returned (.bool true) ∧ My w0 w' b cs hi 1 r ∧ Near b w w' :=
  (close_first b cs hi rs r w h.mt).mono fun e w' ⟨h1, h2, h3⟩ => ⟨h1, h.step h2 h3, h3⟩
theorem reclose_my (w0 : World) (b : Nat) (cs : List Int) (hi rs r : Int) (w : World) (h : My w0 w b cs hi 1 rs) :
    Calls Try.prog 16 #[.pointer (some ⟨b, 0, none⟩), .int .i64 r] w fun e w' => e = .returned (.bool false) ∧ My w0 w' b cs hi 1 rs ∧ Near b w w' :=
  (close_again b cs hi rs r w h.mt).mono fun e w' ⟨h1, h2, h3⟩ => ⟨h1, h.step h2 h3, h3⟩
theorem open_my (w0 : World) (b : Nat) (cs : List Int) (hi rs : Int) (w : World) (h : My w0 w b cs hi 0 rs) :
    Calls Try.prog 17 #[.pointer (some ⟨b, 0, none⟩)] w fun e w' => e = .returned (.tuple #[.int .i64 0, .bool false]) ∧ w' = w := closed_c b cs hi 0 rs w h.mt false rfl 0 rfl
theorem shut_my (w0 : World) (b : Nat) (cs : List Int) (hi rs : Int) (w : World) (h : My w0 w b cs hi 1 rs) :
    Calls Try.prog 17 #[.pointer (some ⟨b, 0, none⟩)] w fun e w' => e = .returned (.tuple #[.int .i64 rs, .bool true]) ∧ w' = w := closed_c b cs hi 1 rs w h.mt true rfl rs rfl
theorem mark_no (w0 : World) (b : Nat) (cs : List Int) (hi rs n : Int) (w : World) (h : My w0 w b cs hi 1 rs) :
    Calls Try.prog 11 #[.pointer (some ⟨b, 0, none⟩), .int .i64 n] w fun e w' => e = .returned (.bool false) ∧ My w0 w' b cs hi 1 rs ∧ Near b w w' :=
  (mark_shut b cs hi rs n w h.mt).mono fun e w' ⟨h1, h2, h3⟩ => ⟨h1, h.step h2 h3, h3⟩
theorem count_no (w0 : World) (b : Nat) (cs : List Int) (hi rs k n : Int) (w : World) (h : My w0 w b cs hi 1 rs) :
    Calls Try.prog 13 #[.pointer (some ⟨b, 0, none⟩), .int .i64 k, .int .i64 n] w fun e w' => e = .returned (.bool false) ∧ My w0 w' b cs hi 1 rs ∧ Near b w w' :=
  (count_shut b cs hi rs k n w h.mt).mono fun e w' ⟨h1, h2, h3⟩ => ⟨h1, h.step h2 h3, h3⟩
end Go.Proofs.Ytblibjnhldocaaa.HandM
