/- The machine's side of EpochGrows, part 3 of 3: functions and their contracts, printed by a program of this session. -/
import Derived.Test.YtjlcaiijapjakaaQEpochGrowsb
namespace Go.Proofs.Ytjlcaiijapjakaa.QEpochGrows
open Go.RowKit Go.Proofs.YtjlcaiijapjakaaW.PrintWords Go.Proofs.YtjlcaiijapjakaaW.PrintLast Go.Proofs.YtjlcaiijapjakaaW.PrintMore
attribute [local go_sem] max2_int min2_int max_two min_two max_three min_three max_four min_four   -- for this text's walks alone
set_option linter.unusedVariables false
set_option linter.unusedSimpArgs false

/-! ### grapevinelaw06_EpochGrows: function 10 -/
mutual
def grapevinelaw06_EpochGrows.j0 : Nat → List (S39) → Bool → Int → Int → Int → Option (Bool)
 | 0, _, _, _, _, _ => none
 | k + 1, x1, x21, x145000, x145001, x145002 => if x21 = true then (some true) else (grapevinelaw06_EpochGrows.l0 k ([] : List Int) x1 (x1.length : Int) 0 x145000 x145001 x145002)
def grapevinelaw06_EpochGrows.l0 : Nat → List Int → List (S39) → Int → Int → Int → Int → Int → Option (Bool)
 | 0, _, _, _, _, _, _, _ => none
 | k + 1, x5, x22, x23, x24, x145000, x145001, x145002 => if x24 < x23 then (if 0 ≤ x24 then (if x24 < (x22.length : Int) then (if ((rd_T39 x22 x24).f0) = 1 then ((epoch_Epochs_See.f x145000 x145001 x145002 ((rd_T39 x22 x24).f1)).bind fun bt150 => (grapevinelaw06_EpochGrows.j2 k x5 bt150.2.2.2 x22 x23 x24 x145000 x145001 x145002 ((rd_T39 x22 x24).f0) ((rd_T39 x22 x24).f1) bt150.1 bt150.2.1 bt150.2.2.1)) else (if ((rd_T39 x22 x24).f0) = 2 then ((epoch_Epochs_Stand.f x145000 x145001 x145002).bind fun bt154 => (grapevinelaw06_EpochGrows.j2 k x5 bt154.2.2.2 x22 x23 x24 x145000 x145001 x145002 ((rd_T39 x22 x24).f0) ((rd_T39 x22 x24).f1) bt154.1 bt154.2.1 bt154.2.2.1)) else (if ((rd_T39 x22 x24).f0) = 3 then ((epoch_Epochs_Grant.f x145000 x145001 x145002 ((rd_T39 x22 x24).f1)).bind fun bt158 => (grapevinelaw06_EpochGrows.j2 k x5 bt158.2.2.2 x22 x23 x24 x145000 x145001 x145002 ((rd_T39 x22 x24).f0) ((rd_T39 x22 x24).f1) bt158.1 bt158.2.1 bt158.2.2.1)) else (if ((rd_T39 x22 x24).f0) = 4 then ((epoch_Epochs_Win.f x145000 x145001 x145002 ((rd_T39 x22 x24).f1)).bind fun bt162 => (grapevinelaw06_EpochGrows.j2 k x5 bt162.2.2.2 x22 x23 x24 x145000 x145001 x145002 ((rd_T39 x22 x24).f0) ((rd_T39 x22 x24).f1) bt162.1 bt162.2.1 bt162.2.2.1)) else (if ((rd_T39 x22 x24).f0) = 5 then ((epoch_Epochs_Bump.f x145000 x145001 x145002).bind fun bt166 => (grapevinelaw06_EpochGrows.j2 k x5 bt166.2.2.2 x22 x23 x24 x145000 x145001 x145002 ((rd_T39 x22 x24).f0) ((rd_T39 x22 x24).f1) bt166.1 bt166.2.1 bt166.2.2.1)) else (grapevinelaw06_EpochGrows.j2 k x5 10 x22 x23 x24 x145000 x145001 x145002 ((rd_T39 x22 x24).f0) ((rd_T39 x22 x24).f1) x145000 x145001 x145002)))))) else (none)) else (none)) else (some true)
def grapevinelaw06_EpochGrows.j2 : Nat → List Int → Int → List (S39) → Int → Int → Int → Int → Int → Int → Int → Int → Int → Int → Option (Bool)
 | 0, _, _, _, _, _, _, _, _, _, _, _, _, _ => none
 | k + 1, x5, x9, x22, x23, x24, x145000, x145001, x145002, x149000, x149001, x150000, x150001, x150002 => if x9 = 0 then ((epoch_Epochs_Right.f x150000 x150001 x150002).bind fun t170 => (if t170 = true then (if x150000 < x145000 then (grapevinelaw06_EpochGrows.j3 k x5 x22 x23 x24 true x149000 x149001 x150000 x150001 x150002) else (if x150001 < x145001 then (grapevinelaw06_EpochGrows.j3 k x5 x22 x23 x24 true x149000 x149001 x150000 x150001 x150002) else (grapevinelaw06_EpochGrows.j3 k x5 x22 x23 x24 (decide (x150002 < x145002)) x149000 x149001 x150000 x150001 x150002))) else (grapevinelaw06_EpochGrows.j3 k x5 x22 x23 x24 true x149000 x149001 x150000 x150001 x150002))) else (grapevinelaw06_EpochGrows.l0 k x5 x22 x23 (wrap64 (x24 + 1)) x145000 x145001 x145002)
def grapevinelaw06_EpochGrows.j3 : Nat → List Int → List (S39) → Int → Int → Bool → Int → Int → Int → Int → Int → Option (Bool)
 | 0, _, _, _, _, _, _, _, _, _, _ => none
 | k + 1, x5, x22, x23, x24, x97, x149000, x149001, x150000, x150001, x150002 => if x97 = true then (some false) else (if x149000 = 3 then (grapevinelaw06_EpochGrows.l1 k x5 x22 x23 x24 x5 (x5.length : Int) 0 x149000 x149001 x150000 x150001 x150002) else (grapevinelaw06_EpochGrows.l0 k x5 x22 x23 (wrap64 (x24 + 1)) x150000 x150001 x150002))
def grapevinelaw06_EpochGrows.l1 : Nat → List Int → List (S39) → Int → Int → List Int → Int → Int → Int → Int → Int → Int → Int → Option (Bool)
 | 0, _, _, _, _, _, _, _, _, _, _, _, _ => none
 | k + 1, x5, x22, x23, x24, x101, x102, x103, x149000, x149001, x150000, x150001, x150002 => if x103 < x102 then (if 0 ≤ x103 then (if x103 < (x101.length : Int) then (if (rd x101 x103) = x149001 then (some false) else (grapevinelaw06_EpochGrows.l1 k x5 x22 x23 x24 x101 x102 (wrap64 (x103 + 1)) x149000 x149001 x150000 x150001 x150002)) else (none)) else (none)) else (if x5.length < 17592186044416 then (grapevinelaw06_EpochGrows.l0 k (x5 ++ [x149001]) x22 x23 (wrap64 (x24 + 1)) x150000 x150001 x150002) else (none))
end
def grapevinelaw06_EpochGrows.f (k : Nat) (a0_0 : Int) (a0_1 : Int) (a0_2 : Int) (l1 : List (S39)) : Option (Bool) := (grapevinelaw06_anchor.f).bind fun t145 => (if t145 = true then ((grapevinelaw06_right.f a0_0 a0_1 a0_2).bind fun t146 => (if t146 = true then (grapevinelaw06_EpochGrows.j0 k l1 (decide ((l1.length : Int) > 100)) a0_0 a0_1 a0_2) else (grapevinelaw06_EpochGrows.j0 k l1 true a0_0 a0_1 a0_2))) else (some false))
theorem grapevinelaw06_EpochGrows.mono_l : ∀ k, (∀ y0 y1 y2 y3 y4, LeO (grapevinelaw06_EpochGrows.j0 k y0 y1 y2 y3 y4) (grapevinelaw06_EpochGrows.j0 (k + 1) y0 y1 y2 y3 y4)) ∧ (∀ y0 y1 y2 y3 y4 y5 y6, LeO (grapevinelaw06_EpochGrows.l0 k y0 y1 y2 y3 y4 y5 y6) (grapevinelaw06_EpochGrows.l0 (k + 1) y0 y1 y2 y3 y4 y5 y6)) ∧ (∀ y0 y1 y2 y3 y4 y5 y6 y7 y8 y9 y10 y11 y12, LeO (grapevinelaw06_EpochGrows.j2 k y0 y1 y2 y3 y4 y5 y6 y7 y8 y9 y10 y11 y12) (grapevinelaw06_EpochGrows.j2 (k + 1) y0 y1 y2 y3 y4 y5 y6 y7 y8 y9 y10 y11 y12)) ∧ (∀ y0 y1 y2 y3 y4 y5 y6 y7 y8 y9, LeO (grapevinelaw06_EpochGrows.j3 k y0 y1 y2 y3 y4 y5 y6 y7 y8 y9) (grapevinelaw06_EpochGrows.j3 (k + 1) y0 y1 y2 y3 y4 y5 y6 y7 y8 y9)) ∧ (∀ y0 y1 y2 y3 y4 y5 y6 y7 y8 y9 y10 y11, LeO (grapevinelaw06_EpochGrows.l1 k y0 y1 y2 y3 y4 y5 y6 y7 y8 y9 y10 y11) (grapevinelaw06_EpochGrows.l1 (k + 1) y0 y1 y2 y3 y4 y5 y6 y7 y8 y9 y10 y11))
 | 0 => ⟨fun _ _ _ _ _ r h => by simp [grapevinelaw06_EpochGrows.j0] at h, fun _ _ _ _ _ _ _ r h => by simp [grapevinelaw06_EpochGrows.l0] at h, fun _ _ _ _ _ _ _ _ _ _ _ _ _ r h => by simp [grapevinelaw06_EpochGrows.j2] at h, fun _ _ _ _ _ _ _ _ _ _ r h => by simp [grapevinelaw06_EpochGrows.j3] at h, fun _ _ _ _ _ _ _ _ _ _ _ _ r h => by simp [grapevinelaw06_EpochGrows.l1] at h⟩
 | k + 1 => by
  obtain ⟨ih0, ih1, ih2, ih3, ih4⟩ := grapevinelaw06_EpochGrows.mono_l k
  refine ⟨?_, ?_, ?_, ?_, ?_⟩
  ·intro y0 y1 y2 y3 y4
   unfold grapevinelaw06_EpochGrows.j0
   repeat' first
   | (with_reducible exact ih0 _ _ _ _ _)
   | (with_reducible exact ih1 _ _ _ _ _ _ _)
   | (with_reducible exact ih2 _ _ _ _ _ _ _ _ _ _ _ _ _)
   | (with_reducible exact ih3 _ _ _ _ _ _ _ _ _ _)
   | (with_reducible exact ih4 _ _ _ _ _ _ _ _ _ _ _ _)
   | (with_reducible exact LeO.refl _)
   | (with_reducible exact LeO.none _)
   | (with_reducible refine LeO.ite ?_ ?_)
   | (with_reducible refine LeO.bind ?_ (fun _ => ?_))
   | exact ih0 _ _ _ _ _
   | exact ih1 _ _ _ _ _ _ _
   | exact ih2 _ _ _ _ _ _ _ _ _ _ _ _ _
   | exact ih3 _ _ _ _ _ _ _ _ _ _
   | exact ih4 _ _ _ _ _ _ _ _ _ _ _ _
   | exact LeO.none _
   | refine LeO.ite ?_ ?_
   | refine LeO.bind ?_ (fun _ => ?_)
  ·intro y0 y1 y2 y3 y4 y5 y6
   unfold grapevinelaw06_EpochGrows.l0
   repeat' first
   | (with_reducible exact ih0 _ _ _ _ _)
   | (with_reducible exact ih1 _ _ _ _ _ _ _)
   | (with_reducible exact ih2 _ _ _ _ _ _ _ _ _ _ _ _ _)
   | (with_reducible exact ih3 _ _ _ _ _ _ _ _ _ _)
   | (with_reducible exact ih4 _ _ _ _ _ _ _ _ _ _ _ _)
   | (with_reducible exact LeO.refl _)
   | (with_reducible exact LeO.none _)
   | (with_reducible refine LeO.ite ?_ ?_)
   | (with_reducible refine LeO.bind ?_ (fun _ => ?_))
   | exact ih0 _ _ _ _ _
   | exact ih1 _ _ _ _ _ _ _
   | exact ih2 _ _ _ _ _ _ _ _ _ _ _ _ _
   | exact ih3 _ _ _ _ _ _ _ _ _ _
   | exact ih4 _ _ _ _ _ _ _ _ _ _ _ _
   | exact LeO.none _
   | refine LeO.ite ?_ ?_
   | refine LeO.bind ?_ (fun _ => ?_)
  ·intro y0 y1 y2 y3 y4 y5 y6 y7 y8 y9 y10 y11 y12
   unfold grapevinelaw06_EpochGrows.j2
   repeat' first
   | (with_reducible exact ih0 _ _ _ _ _)
   | (with_reducible exact ih1 _ _ _ _ _ _ _)
   | (with_reducible exact ih2 _ _ _ _ _ _ _ _ _ _ _ _ _)
   | (with_reducible exact ih3 _ _ _ _ _ _ _ _ _ _)
   | (with_reducible exact ih4 _ _ _ _ _ _ _ _ _ _ _ _)
   | (with_reducible exact LeO.refl _)
   | (with_reducible exact LeO.none _)
   | (with_reducible refine LeO.ite ?_ ?_)
   | (with_reducible refine LeO.bind ?_ (fun _ => ?_))
   | exact ih0 _ _ _ _ _
   | exact ih1 _ _ _ _ _ _ _
   | exact ih2 _ _ _ _ _ _ _ _ _ _ _ _ _
   | exact ih3 _ _ _ _ _ _ _ _ _ _
   | exact ih4 _ _ _ _ _ _ _ _ _ _ _ _
   | exact LeO.none _
   | refine LeO.ite ?_ ?_
   | refine LeO.bind ?_ (fun _ => ?_)
  ·intro y0 y1 y2 y3 y4 y5 y6 y7 y8 y9
   unfold grapevinelaw06_EpochGrows.j3
   repeat' first
   | (with_reducible exact ih0 _ _ _ _ _)
   | (with_reducible exact ih1 _ _ _ _ _ _ _)
   | (with_reducible exact ih2 _ _ _ _ _ _ _ _ _ _ _ _ _)
   | (with_reducible exact ih3 _ _ _ _ _ _ _ _ _ _)
   | (with_reducible exact ih4 _ _ _ _ _ _ _ _ _ _ _ _)
   | (with_reducible exact LeO.refl _)
   | (with_reducible exact LeO.none _)
   | (with_reducible refine LeO.ite ?_ ?_)
   | (with_reducible refine LeO.bind ?_ (fun _ => ?_))
   | exact ih0 _ _ _ _ _
   | exact ih1 _ _ _ _ _ _ _
   | exact ih2 _ _ _ _ _ _ _ _ _ _ _ _ _
   | exact ih3 _ _ _ _ _ _ _ _ _ _
   | exact ih4 _ _ _ _ _ _ _ _ _ _ _ _
   | exact LeO.none _
   | refine LeO.ite ?_ ?_
   | refine LeO.bind ?_ (fun _ => ?_)
  ·intro y0 y1 y2 y3 y4 y5 y6 y7 y8 y9 y10 y11
   unfold grapevinelaw06_EpochGrows.l1
   repeat' first
   | (with_reducible exact ih0 _ _ _ _ _)
   | (with_reducible exact ih1 _ _ _ _ _ _ _)
   | (with_reducible exact ih2 _ _ _ _ _ _ _ _ _ _ _ _ _)
   | (with_reducible exact ih3 _ _ _ _ _ _ _ _ _ _)
   | (with_reducible exact ih4 _ _ _ _ _ _ _ _ _ _ _ _)
   | (with_reducible exact LeO.refl _)
   | (with_reducible exact LeO.none _)
   | (with_reducible refine LeO.ite ?_ ?_)
   | (with_reducible refine LeO.bind ?_ (fun _ => ?_))
   | exact ih0 _ _ _ _ _
   | exact ih1 _ _ _ _ _ _ _
   | exact ih2 _ _ _ _ _ _ _ _ _ _ _ _ _
   | exact ih3 _ _ _ _ _ _ _ _ _ _
   | exact ih4 _ _ _ _ _ _ _ _ _ _ _ _
   | exact LeO.none _
   | refine LeO.ite ?_ ?_
   | refine LeO.bind ?_ (fun _ => ?_)
theorem grapevinelaw06_EpochGrows.mono : ∀ a0 a1 a2 a3 k, LeO (grapevinelaw06_EpochGrows.f k a0 a1 a2 a3) (grapevinelaw06_EpochGrows.f (k + 1) a0 a1 a2 a3) := by
 intro a0 a1 a2 a3 k
 obtain ⟨ih0, ih1, ih2, ih3, ih4⟩ := grapevinelaw06_EpochGrows.mono_l k
 unfold grapevinelaw06_EpochGrows.f
 repeat' first
   | (with_reducible exact ih0 _ _ _ _ _)
   | (with_reducible exact ih1 _ _ _ _ _ _ _)
   | (with_reducible exact ih2 _ _ _ _ _ _ _ _ _ _ _ _ _)
   | (with_reducible exact ih3 _ _ _ _ _ _ _ _ _ _)
   | (with_reducible exact ih4 _ _ _ _ _ _ _ _ _ _ _ _)
   | (with_reducible exact LeO.refl _)
   | (with_reducible exact LeO.none _)
   | (with_reducible refine LeO.ite ?_ ?_)
   | (with_reducible refine LeO.bind ?_ (fun _ => ?_))
   | exact ih0 _ _ _ _ _
   | exact ih1 _ _ _ _ _ _ _
   | exact ih2 _ _ _ _ _ _ _ _ _ _ _ _ _
   | exact ih3 _ _ _ _ _ _ _ _ _ _
   | exact ih4 _ _ _ _ _ _ _ _ _ _ _ _
   | exact LeO.none _
   | refine LeO.ite ?_ ?_
   | refine LeO.bind ?_ (fun _ => ?_)
set_option maxHeartbeats 8000000 in
set_option maxRecDepth 100000 in
theorem grapevinelaw06_EpochGrows.calls (k : Nat) (a0_0 : Int) (a0_1 : Int) (a0_2 : Int) (A1 : Option Addr) (c1 : Nat) (l1 : List (S39)) (r : Bool) (w : World) (hr1 : Kd.C k39 w A1 l1.length l1) (hc1 : l1.length ≤ c1) (h : grapevinelaw06_EpochGrows.f k a0_0 a0_1 a0_2 l1 = some r) :
  Calls Try.prog 10 #[.agg #[.int .i64 a0_0, .int .i64 a0_1, .int .i64 a0_2], .slice A1 l1.length c1] w fun e w' => e = .returned (.bool r) ∧ Below w.heap.size w w' := by
 have hu23 := Try.underlying23
 have hu39 := Try.underlying39
 have HR1 := Aside0.mk hr1
 have HC1 := Aside0.mk hc1
 clear hr1 hc1
 have HB := Aside0.mk (Below.refl w.heap.size w)
 have H : ((grapevinelaw06_anchor.f).bind fun t145 => (if t145 = true then ((grapevinelaw06_right.f a0_0 a0_1 a0_2).bind fun t146 => (if t146 = true then (grapevinelaw06_EpochGrows.j0 k l1 (decide ((l1.length : Int) > 100)) a0_0 a0_1 a0_2) else (grapevinelaw06_EpochGrows.j0 k l1 true a0_0 a0_1 a0_2))) else (some false))) = some r := h
 clear h
 replace H := Option.bind_eq_some_iff.mp H
 obtain ⟨t145, A30, H⟩ := H
 replace H : (if t145 = true then ((grapevinelaw06_right.f a0_0 a0_1 a0_2).bind fun t146 => (if t146 = true then (grapevinelaw06_EpochGrows.j0 k l1 (decide ((l1.length : Int) > 100)) a0_0 a0_1 a0_2) else (grapevinelaw06_EpochGrows.j0 k l1 true a0_0 a0_1 a0_2))) else (some false)) = some r := H
 have A3 := Aside0.mk A30
 clear A30
 by_cases c4 : t145 = true
 ·subst c4
  have H1 : ((grapevinelaw06_right.f a0_0 a0_1 a0_2).bind fun t146 => (if t146 = true then (grapevinelaw06_EpochGrows.j0 k l1 (decide ((l1.length : Int) > 100)) a0_0 a0_1 a0_2) else (grapevinelaw06_EpochGrows.j0 k l1 true a0_0 a0_1 a0_2))) = some r := by rw [if_pos rfl] at H; exact H
  clear H
  have H := H1
  clear H1
  have HC5 := Aside0.mk H
  clear H
  go_enter Try.func10, Try.ntmps10
  go_upto_region 3 with (first | ((with_reducible refine gate_dst (N := 2) rfl ?_); (try (refine gate_guard (by rfl) ?_; dsimp only)); refine box_event ?hg (N := 2) ?hd (cs := #[.int .i64 a0_0, .int .i64 a0_1, .int .i64 a0_2]) (t := 23) ?hr ?_; (case hd => rfl); (case hg => rfl); (case hr => first | (go_simp; done) | (go_simp; rfl)); intro gb144 hg w6 hbox hb; have n0_ := Aside0.mk (below_step (by repeat (first | (with_reducible first | exact HB.out | apply below_alloc | apply pw_below_drewN | apply below_drew1) | exact HB.out)) hb); have n1_ := Aside0.mk (hbox); have n2_ := Aside0.mk ((by rw [hg]; exact (below_size (by repeat (first | (with_reducible first | exact HB.out | apply below_alloc | apply pw_below_drewN | apply below_drew1) | exact HB.out))) : w.heap.size ≤ gb144)); have n3_ := Aside0.mk ((by rw [hg]; exact (below_size (by repeat (first | (with_reducible first | exact HB.out | apply below_alloc | apply pw_below_drewN | apply below_drew1) | exact HB.out))) : w.heap.size ≤ gb144)); clear HB; have HB := n0_; have BK144 := n1_; have GW144 := n2_; have GE144 := n3_; clear n0_ n1_ n2_ n3_; clear hb hbox hg) | ((with_reducible refine gate_callee (f := 12) rfl ?_); refine goesL_ (some 12) rfl rfl Try.func12 (by kernel_rfl) rfl #[] rfl (by (try simp only [List.map_toArray, List.map_cons, List.map_nil]); first | done | rfl | (simp only [List.length_drop, List.length_take]; rfl)) ?_; (with_reducible refine (grapevinelaw06_anchor.calls  true _ A3.out).mono ?_); rintro e w7 ⟨rfl, hb⟩; refine ⟨_, rfl, ?_⟩; have n0_ := Aside0.mk (blk_below (g := gb144) (o := .cells #[.int .i64 a0_0, .int .i64 a0_1, .int .i64 a0_2] 23 (0, 0)) (by (with_reducible repeat (first | refine blk_drewN ?_ _ | refine blk_drew ?_ | refine blk_alloc ?_ _)); exact BK144.out) hb); have n1_ := Aside0.mk (below_step (by repeat (first | (with_reducible first | exact HB.out | apply below_alloc | apply pw_below_drewN | apply below_drew1 | refine below_set ?_ GE144.out) | exact HB.out)) hb); clear BK144; clear HB; have BK144 := n0_; have HB := n1_; clear n0_ n1_; (try clear hb); (try clear hb2); (try clear hk); (try clear hi)))
  (try simp only [Act.put, List.setIfInBounds_toArray, List.set_cons_zero, List.set_cons_succ])
  go_cut [21] (fun v21 wc => ∃ (kq : Nat) (x21_4 : Bool), v21 = .bool x21_4 ∧ Aside0 (grapevinelaw06_EpochGrows.j0 kq l1 x21_4 a0_0 a0_1 a0_2 = some r) ∧ Aside0 (kq ≤ k) ∧ Aside0 (wc.heap[gb144]? = some (.cells #[.int .i64 a0_0, .int .i64 a0_1, .int .i64 a0_2] 23 (0, 0))) ∧ Aside0 (Below w.heap.size w wc))
  case first =>
   have H := HC5.out
   clear HC5
   replace H := Option.bind_eq_some_iff.mp H
   obtain ⟨t146, A80, H⟩ := H
   replace H : (if t146 = true then (grapevinelaw06_EpochGrows.j0 k l1 (decide ((l1.length : Int) > 100)) a0_0 a0_1 a0_2) else (grapevinelaw06_EpochGrows.j0 k l1 true a0_0 a0_1 a0_2)) = some r := H
   have A8 := Aside0.mk A80
   clear A80
   by_cases c9 : t146 = true
   ·subst c9
    have H1 : (grapevinelaw06_EpochGrows.j0 k l1 (decide ((l1.length : Int) > 100)) a0_0 a0_1 a0_2) = some r := by rw [if_pos rfl] at H; exact H
    clear H
    have H := H1
    clear H1
    have H' := Aside0.mk H
    clear H
    have hcz10_0 : w7.cell? ⟨gb144, 0, none⟩ = some (.int .i64 a0_0) := (blk_cell BK144.out 0).trans rfl
    have hcz10_1 : w7.cell? ⟨gb144, 1, none⟩ = some (.int .i64 a0_1) := (blk_cell BK144.out 1).trans rfl
    have hcz10_2 : w7.cell? ⟨gb144, 2, none⟩ = some (.int .i64 a0_2) := (blk_cell BK144.out 2).trans rfl
    have hfz10_0 := blk_frozen BK144.out 0
    have hfz10_1 := blk_frozen BK144.out 1
    have hfz10_2 := blk_frozen BK144.out 2
    go_wp2_with (first | ((with_reducible refine gate_callee (f := 14) rfl ?_); refine goesL_ (some 15) rfl rfl Try.func14 (by kernel_rfl) rfl #[.agg #[.int .i64 a0_0, .int .i64 a0_1, .int .i64 a0_2]] rfl (by (try simp only [List.map_toArray, List.map_cons, List.map_nil]); first | done | rfl | (simp only [List.length_drop, List.length_take]; rfl)) ?_; (with_reducible refine (grapevinelaw06_right.calls a0_0 a0_1 a0_2 true _ A8.out).mono ?_); rintro e w11 ⟨rfl, hb⟩; refine ⟨_, rfl, ?_⟩; have n0_ := Aside0.mk (blk_below (g := gb144) (o := .cells #[.int .i64 a0_0, .int .i64 a0_1, .int .i64 a0_2] 23 (0, 0)) (by (with_reducible repeat (first | refine blk_drewN ?_ _ | refine blk_drew ?_ | refine blk_alloc ?_ _)); exact BK144.out) hb); have n1_ := Aside0.mk (below_step (by repeat (first | (with_reducible first | exact HB.out | apply below_alloc | apply pw_below_drewN | apply below_drew1 | refine below_set ?_ GE144.out) | exact HB.out)) hb); clear BK144; clear HB; have BK144 := n0_; have HB := n1_; clear n0_ n1_; (try clear hb); (try clear hb2); (try clear hk); (try clear hi)))
    go_meet
    case rel => exact ⟨_, (decide ((l1.length : Int) > 100)), (by first | rfl | (simp; done) | (simp [*]; done)), H', ⟨by first | omega | exact Nat.le_refl _⟩, ⟨by (with_reducible repeat (first | refine blk_drewN ?_ _ | refine blk_drew ?_ | refine blk_alloc ?_ _)); exact BK144.out⟩, ⟨by repeat (first | (with_reducible first | exact HB.out | apply below_alloc | apply pw_below_drewN | apply below_drew1 | refine below_set ?_ GE144.out) | exact HB.out)⟩⟩
   ·replace c9 := Bool.eq_false_iff.mpr c9
    subst c9
    have H1 : (grapevinelaw06_EpochGrows.j0 k l1 true a0_0 a0_1 a0_2) = some r := by rw [if_neg (show ¬ (false = true) by decide)] at H; exact H
    clear H
    have H := H1
    clear H1
    have H' := Aside0.mk H
    clear H
    have hcz12_0 : w7.cell? ⟨gb144, 0, none⟩ = some (.int .i64 a0_0) := (blk_cell BK144.out 0).trans rfl
    have hcz12_1 : w7.cell? ⟨gb144, 1, none⟩ = some (.int .i64 a0_1) := (blk_cell BK144.out 1).trans rfl
    have hcz12_2 : w7.cell? ⟨gb144, 2, none⟩ = some (.int .i64 a0_2) := (blk_cell BK144.out 2).trans rfl
    have hfz12_0 := blk_frozen BK144.out 0
    have hfz12_1 := blk_frozen BK144.out 1
    have hfz12_2 := blk_frozen BK144.out 2
    go_wp2_with (first | ((with_reducible refine gate_callee (f := 14) rfl ?_); refine goesL_ (some 15) rfl rfl Try.func14 (by kernel_rfl) rfl #[.agg #[.int .i64 a0_0, .int .i64 a0_1, .int .i64 a0_2]] rfl (by (try simp only [List.map_toArray, List.map_cons, List.map_nil]); first | done | rfl | (simp only [List.length_drop, List.length_take]; rfl)) ?_; (with_reducible refine (grapevinelaw06_right.calls a0_0 a0_1 a0_2 false _ A8.out).mono ?_); rintro e w13 ⟨rfl, hb⟩; refine ⟨_, rfl, ?_⟩; have n0_ := Aside0.mk (blk_below (g := gb144) (o := .cells #[.int .i64 a0_0, .int .i64 a0_1, .int .i64 a0_2] 23 (0, 0)) (by (with_reducible repeat (first | refine blk_drewN ?_ _ | refine blk_drew ?_ | refine blk_alloc ?_ _)); exact BK144.out) hb); have n1_ := Aside0.mk (below_step (by repeat (first | (with_reducible first | exact HB.out | apply below_alloc | apply pw_below_drewN | apply below_drew1 | refine below_set ?_ GE144.out) | exact HB.out)) hb); clear BK144; clear HB; have BK144 := n0_; have HB := n1_; clear n0_ n1_; (try clear hb); (try clear hb2); (try clear hk); (try clear hi)))
    go_meet
    case rel => exact ⟨_, (true), (by first | rfl | (simp; done) | (simp [*]; done)), H', ⟨by first | omega | exact Nat.le_refl _⟩, ⟨by (with_reducible repeat (first | refine blk_drewN ?_ _ | refine blk_drew ?_ | refine blk_alloc ?_ _)); exact BK144.out⟩, ⟨by repeat (first | (with_reducible first | exact HB.out | apply below_alloc | apply pw_below_drewN | apply below_drew1 | refine below_set ?_ GE144.out) | exact HB.out)⟩⟩
  case rest =>
   clear HC5
   try clear c1
   try clear p2
   try clear c4
   try clear c9
   try clear c10
   try clear c12
   try clear hcz10_0
   try clear hcz10_1
   try clear hcz10_2
   try clear hcz12_0
   try clear hcz12_1
   try clear hcz12_2
   try clear hfz10_0
   try clear hfz10_1
   try clear hfz10_2
   try clear hfz12_0
   try clear hfz12_1
   try clear hfz12_2
   obtain ⟨kq, x21_4, rfl, HA, HJ4, BK144, HB⟩ := hcut
   cases kq with
   | zero => exact absurd HA.out (by simp [grapevinelaw06_EpochGrows.j0])
   | succ kj4 =>
    have H := HA.out
    clear HA
    simp only [grapevinelaw06_EpochGrows.j0] at H
    by_cases c14 : x21_4 = true
    ·subst c14
     have H1 : (some true) = some r := by rw [if_pos rfl] at H; exact H
     clear H
     have H := H1
     clear H1
     obtain rfl := Option.some.inj H
     go_wp2
     go_ret
     exact ⟨by first | rfl | (simp [errW_none, errW_some] <;> rfl) | (simp [*, errW_none, errW_some] <;> rfl), by repeat (first | (with_reducible first | exact HB.out | apply below_alloc | apply pw_below_drewN | apply below_drew1 | refine below_set ?_ GE144.out) | exact HB.out)⟩
    ·replace c14 := Bool.eq_false_iff.mpr c14
     subst c14
     have H1 : (grapevinelaw06_EpochGrows.l0 kj4 ([] : List Int) l1 (l1.length : Int) 0 a0_0 a0_1 a0_2) = some r := by rw [if_neg (show ¬ (false = true) by decide)] at H; exact H
     clear H
     have H := H1
     clear H1
     have H' := Aside0.mk H
     clear H
     go_wp2
     go_loopg [5, 24] kj4 (fun kq v5 v24 w' => ∃ (x5_2 : List Int) (x24_2 : Int) (x145000_2 : Int) (x145001_2 : Int) (x145002_2 : Int), v24 = .int .i64 x24_2 ∧ Aside0 (grapevinelaw06_EpochGrows.l0 kq x5_2 l1 (l1.length : Int) x24_2 x145000_2 x145001_2 x145002_2 = some r) ∧ Aside0 (kq ≤ kj4) ∧ Aside0 (Kd.R (Kd.int .i64) 3 w' w.heap.size (fun _ => True) v5 x5_2) ∧ Aside0 (w'.heap[gb144]? = some (.cells #[.int .i64 x145000_2, .int .i64 x145001_2, .int .i64 x145002_2] 23 (0, 0))) ∧ Aside0 (Below w.heap.size w w'))
     case atStart => exact ⟨(([] : List Int)), (0), (a0_0), (a0_1), (a0_2), (by first | rfl | (simp; done) | (simp [*]; done)), H', ⟨Nat.le_refl _⟩, ⟨by first | exact Kd.R_nil _ _ _ _ _ | exact Kd.N_nil _ _ _ _ _ | exact Kd.V_nil _ _ _ _ _ | exact Kd.Q_nil _ _ _ _ _ | exact Kd.S_nil _ _ _ _ _⟩, ⟨by (with_reducible repeat (first | refine blk_drewN ?_ _ | refine blk_drew ?_ | refine blk_alloc ?_ _)); exact BK144.out⟩, ⟨by repeat (first | (with_reducible first | exact HB.out | apply below_alloc | apply pw_below_drewN | apply below_drew1 | refine below_set ?_ GE144.out) | exact HB.out)⟩⟩
     case round =>
      clear H'
      try clear c1
      try clear p2
      try clear c4
      try clear c9
      try clear c10
      try clear c12
      try clear c14
      try clear hcz10_0
      try clear hcz10_1
      try clear hcz10_2
      try clear hcz12_0
      try clear hcz12_1
      try clear hcz12_2
      try clear hfz10_0
      try clear hfz10_1
      try clear hfz10_2
      try clear hfz12_0
      try clear hfz12_1
      try clear hfz12_2
      try clear p2
      obtain ⟨x5_2, x24_2, x145000_2, x145001_2, x145002_2, rfl, HA, HK2, HO_5, BK144, HB⟩ := hrel
      cases gk with
      | zero => exact absurd HA.out (by simp [grapevinelaw06_EpochGrows.l0])
      | succ k2 =>
       have H := HA.out
       clear HA
       simp only [grapevinelaw06_EpochGrows.l0] at H
       by_cases c15 : x24_2 < (l1.length : Int)
       ·rw [if_pos c15] at H
        have c15b0 : decide (x24_2 < (l1.length : Int)) = true := decide_eq_true c15
        clear c15
        by_cases c16 : 0 ≤ x24_2
        ·rw [if_pos c16] at H
         have c16b0 : decide (0 ≤ x24_2) = true := decide_eq_true c16
         clear c16
         by_cases c17 : x24_2 < (l1.length : Int)
         ·rw [if_pos c17] at H
          have c17b0 : decide (x24_2 < (l1.length : Int)) = true := decide_eq_true c17
          clear c17
          have HC18 := Aside0.mk H
          clear H
          have p147 : 0 ≤ (x24_2 : Int) := of_decide_eq_true (by first | (with_reducible assumption) | assumption)
          have q147 : x24_2 < (l1.length : Int) := of_decide_eq_true (by first | (with_reducible assumption) | assumption)
          obtain ⟨ad147, e147, hx147_0, hx147_1⟩ := at_T39 HR1.out x24_2 p147 q147
          cases e147
          replace hx147_0 := (HB.out.cell (World.block_lt_of_cell? w _ hx147_0)).trans hx147_0
          replace hx147_1 := (HB.out.cell (World.block_lt_of_cell? w _ hx147_1)).trans hx147_1
          replace p147 := eq_true p147
          replace q147 := eq_true q147
          go_upto_block 2 with (first | ((with_reducible refine gate_dst (N := 7) rfl ?_); (try (refine gate_guard (by rfl) ?_; dsimp only)); refine box_event ?hg (N := 7) ?hd (cs := #[.int .i64 0, .int .i64 0]) (t := 39) ?hr ?_; (case hd => rfl); (case hg => rfl); (case hr => first | (go_simp; done) | (go_simp; rfl)); intro gb148 hg w19 hbox hb; have n0_ := Aside0.mk (Kd.R_below (by (with_reducible repeat (first | apply Kd.R_alloc | apply Kd.R_drewN | apply Kd.R_drew)); exact HO_5.out) hb); have n1_ := Aside0.mk (blk_below (g := gb144) (o := .cells #[.int .i64 x145000_2, .int .i64 x145001_2, .int .i64 x145002_2] 23 (0, 0)) (by (with_reducible repeat (first | refine blk_drewN ?_ _ | refine blk_drew ?_ | refine blk_alloc ?_ _)); exact BK144.out) hb); have n2_ := Aside0.mk (below_step (by repeat (first | (with_reducible first | exact HB.out | apply below_alloc | apply pw_below_drewN | apply below_drew1 | refine below_set ?_ GE144.out) | exact HB.out)) hb); have n3_ := Aside0.mk (hbox); have n4_ := Aside0.mk ((by rw [hg]; exact (below_size (by repeat (first | (with_reducible first | exact HB.out | apply below_alloc | apply pw_below_drewN | apply below_drew1 | refine below_set ?_ GE144.out) | exact HB.out))) : w.heap.size ≤ gb148)); have n5_ := Aside0.mk ((by rw [hg]; exact (below_size (by repeat (first | (with_reducible first | exact HB.out | apply below_alloc | apply pw_below_drewN | apply below_drew1 | refine below_set ?_ GE144.out) | exact HB.out))) : w.heap.size ≤ gb148)); have n6_ := Aside0.mk ((by rw [hg]; exact Nat.ne_of_lt (blk_lt (g := gb144) (o := .cells #[.int .i64 x145000_2, .int .i64 x145001_2, .int .i64 x145002_2] 23 (0, 0)) (by (with_reducible repeat (first | refine blk_drewN ?_ _ | refine blk_drew ?_ | refine blk_alloc ?_ _)); exact BK144.out)) : gb144 ≠ gb148)); have n7_ := Aside0.mk ((by rw [hg]; exact Nat.ne_of_gt (blk_lt (g := gb144) (o := .cells #[.int .i64 x145000_2, .int .i64 x145001_2, .int .i64 x145002_2] 23 (0, 0)) (by (with_reducible repeat (first | refine blk_drewN ?_ _ | refine blk_drew ?_ | refine blk_alloc ?_ _)); exact BK144.out)) : gb148 ≠ gb144)); clear HO_5; clear BK144; clear HB; have HO_5 := n0_; have BK144 := n1_; have HB := n2_; have BK148 := n3_; have GW148 := n4_; have GE148 := n5_; have NB144_148 := n6_; have NB148_144 := n7_; clear n0_ n1_ n2_ n3_ n4_ n5_ n6_ n7_; clear hb hbox hg; have hnb20 := NB148_144.out; have hnc20 := NB144_148.out; have hcz21_0 : w19.cell? ⟨gb148, 0, none⟩ = some (.int .i64 0) := (blk_cell BK148.out 0).trans rfl; have hcz21_1 : w19.cell? ⟨gb148, 1, none⟩ = some (.int .i64 0) := (blk_cell BK148.out 1).trans rfl; have hfz21_0 := blk_frozen BK148.out 0; have hfz21_1 := blk_frozen BK148.out 1; have hcz22_0 : w19.cell? ⟨gb144, 0, none⟩ = some (.int .i64 x145000_2) := (blk_cell BK144.out 0).trans rfl; have hcz22_1 : w19.cell? ⟨gb144, 1, none⟩ = some (.int .i64 x145001_2) := (blk_cell BK144.out 1).trans rfl; have hcz22_2 : w19.cell? ⟨gb144, 2, none⟩ = some (.int .i64 x145002_2) := (blk_cell BK144.out 2).trans rfl; have hfz22_0 := blk_frozen BK144.out 0; have hfz22_1 := blk_frozen BK144.out 1; have hfz22_2 := blk_frozen BK144.out 2) | ((with_reducible refine gate_dst (N := 8) rfl ?_); (try (refine gate_guard (by rfl) ?_; dsimp only)); refine box_event ?hg (N := 8) ?hd (cs := #[.int .i64 0, .int .i64 0, .int .i64 0]) (t := 23) ?hr ?_; (case hd => rfl); (case hg => rfl); (case hr => first | (go_simp; done) | (go_simp; rfl)); intro gb149 hg w23 hbox hb; have n0_ := Aside0.mk (Kd.R_below (by (with_reducible repeat (first | apply Kd.R_alloc | apply Kd.R_drewN | apply Kd.R_drew)); exact (Kd.R_mono (Kd.R_far (p := ⟨gb148, 1, none⟩) (Kd.R_far (p := ⟨gb148, 0, none⟩) (Kd.R_types HO_5.out BK148.out (by decide)) (fun _ hk => hk.2) (.int .i64 ((rd_T39 l1 x24_2).f0))) (fun _ hk => hk.2) (.int .i64 ((rd_T39 l1 x24_2).f1))) (fun _ h_ => h_.1))) hb); have n1_ := Aside0.mk (blk_below (g := gb144) (o := .cells #[.int .i64 x145000_2, .int .i64 x145001_2, .int .i64 x145002_2] 23 (0, 0)) (by (with_reducible repeat (first | refine blk_drewN ?_ _ | refine blk_drew ?_ | refine blk_alloc ?_ _)); refine blk_far ?_ NB144_148.out _; (with_reducible repeat (first | refine blk_drewN ?_ _ | refine blk_drew ?_ | refine blk_alloc ?_ _)); refine blk_far ?_ NB144_148.out _; (with_reducible repeat (first | refine blk_drewN ?_ _ | refine blk_drew ?_ | refine blk_alloc ?_ _)); exact BK144.out) hb); have n2_ := Aside0.mk (blk_below (g := gb148) (o := .cells #[.int .i64 ((rd_T39 l1 x24_2).f0), .int .i64 ((rd_T39 l1 x24_2).f1)] 39 (0, 0)) (by (with_reducible repeat (first | refine blk_drewN ?_ _ | refine blk_drew ?_ | refine blk_alloc ?_ _)); refine blk_put (cs := #[.int .i64 ((rd_T39 l1 x24_2).f0), .int .i64 0]) ?_ 1 _ rfl; (with_reducible repeat (first | refine blk_drewN ?_ _ | refine blk_drew ?_ | refine blk_alloc ?_ _)); refine blk_put (cs := #[.int .i64 0, .int .i64 0]) ?_ 0 _ rfl; (with_reducible repeat (first | refine blk_drewN ?_ _ | refine blk_drew ?_ | refine blk_alloc ?_ _)); exact BK148.out) hb); have n3_ := Aside0.mk (below_step (by repeat (first | (with_reducible first | exact HB.out | apply below_alloc | apply pw_below_drewN | apply below_drew1 | refine below_set ?_ GE144.out | refine below_set ?_ GE148.out) | exact HB.out)) hb); have n4_ := Aside0.mk (hbox); have n5_ := Aside0.mk ((by rw [hg]; exact (below_size (by repeat (first | (with_reducible first | exact HB.out | apply below_alloc | apply pw_below_drewN | apply below_drew1 | refine below_set ?_ GE144.out | refine below_set ?_ GE148.out) | exact HB.out))) : w.heap.size ≤ gb149)); have n6_ := Aside0.mk ((by rw [hg]; exact (below_size (by repeat (first | (with_reducible first | exact HB.out | apply below_alloc | apply pw_below_drewN | apply below_drew1 | refine below_set ?_ GE144.out | refine below_set ?_ GE148.out) | exact HB.out))) : w.heap.size ≤ gb149)); have n7_ := Aside0.mk ((by rw [hg]; exact Nat.ne_of_lt (blk_lt (g := gb144) (o := .cells #[.int .i64 x145000_2, .int .i64 x145001_2, .int .i64 x145002_2] 23 (0, 0)) (by (with_reducible repeat (first | refine blk_drewN ?_ _ | refine blk_drew ?_ | refine blk_alloc ?_ _)); refine blk_far ?_ NB144_148.out _; (with_reducible repeat (first | refine blk_drewN ?_ _ | refine blk_drew ?_ | refine blk_alloc ?_ _)); refine blk_far ?_ NB144_148.out _; (with_reducible repeat (first | refine blk_drewN ?_ _ | refine blk_drew ?_ | refine blk_alloc ?_ _)); exact BK144.out)) : gb144 ≠ gb149)); have n8_ := Aside0.mk ((by rw [hg]; exact Nat.ne_of_gt (blk_lt (g := gb144) (o := .cells #[.int .i64 x145000_2, .int .i64 x145001_2, .int .i64 x145002_2] 23 (0, 0)) (by (with_reducible repeat (first | refine blk_drewN ?_ _ | refine blk_drew ?_ | refine blk_alloc ?_ _)); refine blk_far ?_ NB144_148.out _; (with_reducible repeat (first | refine blk_drewN ?_ _ | refine blk_drew ?_ | refine blk_alloc ?_ _)); refine blk_far ?_ NB144_148.out _; (with_reducible repeat (first | refine blk_drewN ?_ _ | refine blk_drew ?_ | refine blk_alloc ?_ _)); exact BK144.out)) : gb149 ≠ gb144)); have n9_ := Aside0.mk ((by rw [hg]; exact Nat.ne_of_lt (blk_lt (g := gb148) (o := .cells #[.int .i64 ((rd_T39 l1 x24_2).f0), .int .i64 ((rd_T39 l1 x24_2).f1)] 39 (0, 0)) (by (with_reducible repeat (first | refine blk_drewN ?_ _ | refine blk_drew ?_ | refine blk_alloc ?_ _)); refine blk_put (cs := #[.int .i64 ((rd_T39 l1 x24_2).f0), .int .i64 0]) ?_ 1 _ rfl; (with_reducible repeat (first | refine blk_drewN ?_ _ | refine blk_drew ?_ | refine blk_alloc ?_ _)); refine blk_put (cs := #[.int .i64 0, .int .i64 0]) ?_ 0 _ rfl; (with_reducible repeat (first | refine blk_drewN ?_ _ | refine blk_drew ?_ | refine blk_alloc ?_ _)); exact BK148.out)) : gb148 ≠ gb149)); have n10_ := Aside0.mk ((by rw [hg]; exact Nat.ne_of_gt (blk_lt (g := gb148) (o := .cells #[.int .i64 ((rd_T39 l1 x24_2).f0), .int .i64 ((rd_T39 l1 x24_2).f1)] 39 (0, 0)) (by (with_reducible repeat (first | refine blk_drewN ?_ _ | refine blk_drew ?_ | refine blk_alloc ?_ _)); refine blk_put (cs := #[.int .i64 ((rd_T39 l1 x24_2).f0), .int .i64 0]) ?_ 1 _ rfl; (with_reducible repeat (first | refine blk_drewN ?_ _ | refine blk_drew ?_ | refine blk_alloc ?_ _)); refine blk_put (cs := #[.int .i64 0, .int .i64 0]) ?_ 0 _ rfl; (with_reducible repeat (first | refine blk_drewN ?_ _ | refine blk_drew ?_ | refine blk_alloc ?_ _)); exact BK148.out)) : gb149 ≠ gb148)); clear HO_5; clear BK144; clear BK148; clear HB; have HO_5 := n0_; have BK144 := n1_; have BK148 := n2_; have HB := n3_; have BK149 := n4_; have GW149 := n5_; have GE149 := n6_; have NB144_149 := n7_; have NB149_144 := n8_; have NB148_149 := n9_; have NB149_148 := n10_; clear n0_ n1_ n2_ n3_ n4_ n5_ n6_ n7_ n8_ n9_ n10_; clear hb hbox hg; have hnb24 := NB149_144.out; have hnc24 := NB144_149.out; have hnb25 := NB149_148.out; have hnc25 := NB148_149.out; have hcz26_0 : w23.cell? ⟨gb149, 0, none⟩ = some (.int .i64 0) := (blk_cell BK149.out 0).trans rfl; have hcz26_1 : w23.cell? ⟨gb149, 1, none⟩ = some (.int .i64 0) := (blk_cell BK149.out 1).trans rfl; have hcz26_2 : w23.cell? ⟨gb149, 2, none⟩ = some (.int .i64 0) := (blk_cell BK149.out 2).trans rfl; have hfz26_0 := blk_frozen BK149.out 0; have hfz26_1 := blk_frozen BK149.out 1; have hfz26_2 := blk_frozen BK149.out 2; have hcz27_0 : w23.cell? ⟨gb148, 0, none⟩ = some (.int .i64 ((rd_T39 l1 x24_2).f0)) := (blk_cell BK148.out 0).trans rfl; have hcz27_1 : w23.cell? ⟨gb148, 1, none⟩ = some (.int .i64 ((rd_T39 l1 x24_2).f1)) := (blk_cell BK148.out 1).trans rfl; have hfz27_0 := blk_frozen BK148.out 0; have hfz27_1 := blk_frozen BK148.out 1))
          (try simp only [Act.put, List.setIfInBounds_toArray, List.set_cons_zero, List.set_cons_succ])
          go_cut [9] (fun v9 wc => ∃ (kq : Nat) (x9_17 : Int) (x150000_17 : Int) (x150001_17 : Int) (x150002_17 : Int), v9 = .int .i64 x9_17 ∧ Aside0 (grapevinelaw06_EpochGrows.j2 kq x5_2 x9_17 l1 (l1.length : Int) x24_2 x145000_2 x145001_2 x145002_2 ((rd_T39 l1 x24_2).f0) ((rd_T39 l1 x24_2).f1) x150000_17 x150001_17 x150002_17 = some r) ∧ Aside0 (kq ≤ k2) ∧ Aside0 (Kd.R (Kd.int .i64) 3 wc w.heap.size (fun _ => True) u5 x5_2) ∧ Aside0 (wc.heap[gb144]? = some (.cells #[.int .i64 x145000_2, .int .i64 x145001_2, .int .i64 x145002_2] 23 (0, 0))) ∧ Aside0 (wc.heap[gb148]? = some (.cells #[.int .i64 ((rd_T39 l1 x24_2).f0), .int .i64 ((rd_T39 l1 x24_2).f1)] 39 (0, 0))) ∧ Aside0 (wc.heap[gb149]? = some (.cells #[.int .i64 x150000_17, .int .i64 x150001_17, .int .i64 x150002_17] 23 (0, 0))) ∧ Aside0 (Below w.heap.size w wc))
          case first =>
           have H := HC18.out
           clear HC18
           by_cases c28 : ((rd_T39 l1 x24_2).f0) = 1
           ·rw [if_pos c28] at H
            have c28b0 : (((rd_T39 l1 x24_2).f0) == 1) = true := beq_iff_eq.mpr c28
            have c28b1 : (((rd_T39 l1 x24_2).f0) != 1) = false := bne_eq_false_iff_eq.mpr c28
            clear c28
            (first | rw [c28b0] | (simp only [i64_w, i32_w]; rw [c28b0]) | skip)
            replace H := Option.bind_eq_some_iff.mp H
            obtain ⟨⟨t150, t151, t152, t153⟩, A290, H⟩ := H
            replace H : (grapevinelaw06_EpochGrows.j2 k2 x5_2 t153 l1 (l1.length : Int) x24_2 x145000_2 x145001_2 x145002_2 ((rd_T39 l1 x24_2).f0) ((rd_T39 l1 x24_2).f1) t150 t151 t152) = some r := H
            have A29 := Aside0.mk A290
            clear A290
            have H' := Aside0.mk H
            clear H
            have hnb30 := NB144_148.out
            have hnc30 := NB148_144.out
            have hnb31 := NB144_149.out
            have hnc31 := NB149_144.out
            have hcz32_0 : w23.cell? ⟨gb144, 0, none⟩ = some (.int .i64 x145000_2) := (blk_cell BK144.out 0).trans rfl
            have hcz32_1 : w23.cell? ⟨gb144, 1, none⟩ = some (.int .i64 x145001_2) := (blk_cell BK144.out 1).trans rfl
            have hcz32_2 : w23.cell? ⟨gb144, 2, none⟩ = some (.int .i64 x145002_2) := (blk_cell BK144.out 2).trans rfl
            have hfz32_0 := blk_frozen BK144.out 0
            have hfz32_1 := blk_frozen BK144.out 1
            have hfz32_2 := blk_frozen BK144.out 2
            have hnb33 := NB148_149.out
            have hnc33 := NB149_148.out
            have hcz34_0 : w23.cell? ⟨gb148, 0, none⟩ = some (.int .i64 ((rd_T39 l1 x24_2).f0)) := (blk_cell BK148.out 0).trans rfl
            have hcz34_1 : w23.cell? ⟨gb148, 1, none⟩ = some (.int .i64 ((rd_T39 l1 x24_2).f1)) := (blk_cell BK148.out 1).trans rfl
            have hfz34_0 := blk_frozen BK148.out 0
            have hfz34_1 := blk_frozen BK148.out 1
            go_wp2_with (first | ((with_reducible refine gate_callee (f := 18) rfl ?_); refine goesL_ (some 37) rfl rfl Try.func18 (by kernel_rfl) rfl #[.agg #[.int .i64 x145000_2, .int .i64 x145001_2, .int .i64 x145002_2], .int .i64 ((rd_T39 l1 x24_2).f1)] rfl (by (try simp only [List.map_toArray, List.map_cons, List.map_nil]); first | done | rfl | (simp only [List.length_drop, List.length_take]; rfl)) ?_; (with_reducible refine (epoch_Epochs_See.calls x145000_2 x145001_2 x145002_2 ((rd_T39 l1 x24_2).f1) t150 t151 t152 t153 _ A29.out).mono ?_); rintro e w35 ⟨rfl, hb⟩; refine ⟨_, rfl, ?_⟩; have n0_ := Aside0.mk (Kd.R_below (by (with_reducible repeat (first | apply Kd.R_alloc | apply Kd.R_drewN | apply Kd.R_drew)); exact (Kd.R_mono (Kd.R_far (p := ⟨gb149, 2, none⟩) (Kd.R_far (p := ⟨gb149, 1, none⟩) (Kd.R_far (p := ⟨gb149, 0, none⟩) (Kd.R_types HO_5.out BK149.out (by decide)) (fun _ hk => hk.2) (.int .i64 x145000_2)) (fun _ hk => hk.2) (.int .i64 x145001_2)) (fun _ hk => hk.2) (.int .i64 x145002_2)) (fun _ h_ => h_.1))) hb); have n1_ := Aside0.mk (blk_below (g := gb144) (o := .cells #[.int .i64 x145000_2, .int .i64 x145001_2, .int .i64 x145002_2] 23 (0, 0)) (by (with_reducible repeat (first | refine blk_drewN ?_ _ | refine blk_drew ?_ | refine blk_alloc ?_ _)); refine blk_far ?_ NB144_149.out _; (with_reducible repeat (first | refine blk_drewN ?_ _ | refine blk_drew ?_ | refine blk_alloc ?_ _)); refine blk_far ?_ NB144_149.out _; (with_reducible repeat (first | refine blk_drewN ?_ _ | refine blk_drew ?_ | refine blk_alloc ?_ _)); refine blk_far ?_ NB144_149.out _; (with_reducible repeat (first | refine blk_drewN ?_ _ | refine blk_drew ?_ | refine blk_alloc ?_ _)); exact BK144.out) hb); have n2_ := Aside0.mk (blk_below (g := gb148) (o := .cells #[.int .i64 ((rd_T39 l1 x24_2).f0), .int .i64 ((rd_T39 l1 x24_2).f1)] 39 (0, 0)) (by (with_reducible repeat (first | refine blk_drewN ?_ _ | refine blk_drew ?_ | refine blk_alloc ?_ _)); refine blk_far ?_ NB148_149.out _; (with_reducible repeat (first | refine blk_drewN ?_ _ | refine blk_drew ?_ | refine blk_alloc ?_ _)); refine blk_far ?_ NB148_149.out _; (with_reducible repeat (first | refine blk_drewN ?_ _ | refine blk_drew ?_ | refine blk_alloc ?_ _)); refine blk_far ?_ NB148_149.out _; (with_reducible repeat (first | refine blk_drewN ?_ _ | refine blk_drew ?_ | refine blk_alloc ?_ _)); exact BK148.out) hb); have n3_ := Aside0.mk (blk_below (g := gb149) (o := .cells #[.int .i64 x145000_2, .int .i64 x145001_2, .int .i64 x145002_2] 23 (0, 0)) (by (with_reducible repeat (first | refine blk_drewN ?_ _ | refine blk_drew ?_ | refine blk_alloc ?_ _)); refine blk_put (cs := #[.int .i64 x145000_2, .int .i64 x145001_2, .int .i64 0]) ?_ 2 _ rfl; (with_reducible repeat (first | refine blk_drewN ?_ _ | refine blk_drew ?_ | refine blk_alloc ?_ _)); refine blk_put (cs := #[.int .i64 x145000_2, .int .i64 0, .int .i64 0]) ?_ 1 _ rfl; (with_reducible repeat (first | refine blk_drewN ?_ _ | refine blk_drew ?_ | refine blk_alloc ?_ _)); refine blk_put (cs := #[.int .i64 0, .int .i64 0, .int .i64 0]) ?_ 0 _ rfl; (with_reducible repeat (first | refine blk_drewN ?_ _ | refine blk_drew ?_ | refine blk_alloc ?_ _)); exact BK149.out) hb); have n4_ := Aside0.mk (below_step (by repeat (first | (with_reducible first | exact HB.out | apply below_alloc | apply pw_below_drewN | apply below_drew1 | refine below_set ?_ GE144.out | refine below_set ?_ GE148.out | refine below_set ?_ GE149.out) | exact HB.out)) hb); clear HO_5; clear BK144; clear BK148; clear BK149; clear HB; have HO_5 := n0_; have BK144 := n1_; have BK148 := n2_; have BK149 := n3_; have HB := n4_; clear n0_ n1_ n2_ n3_ n4_; (try clear hb); (try clear hb2); (try clear hk); (try clear hi); have hcz36_0 : w35.cell? ⟨gb149, 0, none⟩ = some (.int .i64 x145000_2) := (blk_cell BK149.out 0).trans rfl; have hcz36_1 : w35.cell? ⟨gb149, 1, none⟩ = some (.int .i64 x145001_2) := (blk_cell BK149.out 1).trans rfl; have hcz36_2 : w35.cell? ⟨gb149, 2, none⟩ = some (.int .i64 x145002_2) := (blk_cell BK149.out 2).trans rfl; have hfz36_0 := blk_frozen BK149.out 0; have hfz36_1 := blk_frozen BK149.out 1; have hfz36_2 := blk_frozen BK149.out 2))
            go_meet
            case rel => exact ⟨_, (t153), (t150), (t151), (t152), (by first | rfl | (simp; done) | (simp [*]; done)), H', ⟨by have := HJ4.out; have := HK2.out; first | omega | exact Nat.le_refl _⟩, ⟨by (with_reducible repeat (first | apply Kd.R_alloc | apply Kd.R_drewN | apply Kd.R_drew)); exact Kd.R_mono (Kd.R_far (p := ⟨gb149, 2, none⟩) (Kd.R_far (p := ⟨gb149, 1, none⟩) (Kd.R_far (p := ⟨gb149, 0, none⟩) (Kd.R_types HO_5.out BK149.out (by decide)) (fun _ hk => hk.2) (.int .i64 t150)) (fun _ hk => hk.2) (.int .i64 t151)) (fun _ hk => hk.2) (.int .i64 t152)) (fun _ hk => trivial)⟩, ⟨by (with_reducible repeat (first | refine blk_drewN ?_ _ | refine blk_drew ?_ | refine blk_alloc ?_ _)); refine blk_far ?_ NB144_149.out _; (with_reducible repeat (first | refine blk_drewN ?_ _ | refine blk_drew ?_ | refine blk_alloc ?_ _)); refine blk_far ?_ NB144_149.out _; (with_reducible repeat (first | refine blk_drewN ?_ _ | refine blk_drew ?_ | refine blk_alloc ?_ _)); refine blk_far ?_ NB144_149.out _; (with_reducible repeat (first | refine blk_drewN ?_ _ | refine blk_drew ?_ | refine blk_alloc ?_ _)); exact BK144.out⟩, ⟨by (with_reducible repeat (first | refine blk_drewN ?_ _ | refine blk_drew ?_ | refine blk_alloc ?_ _)); refine blk_far ?_ NB148_149.out _; (with_reducible repeat (first | refine blk_drewN ?_ _ | refine blk_drew ?_ | refine blk_alloc ?_ _)); refine blk_far ?_ NB148_149.out _; (with_reducible repeat (first | refine blk_drewN ?_ _ | refine blk_drew ?_ | refine blk_alloc ?_ _)); refine blk_far ?_ NB148_149.out _; (with_reducible repeat (first | refine blk_drewN ?_ _ | refine blk_drew ?_ | refine blk_alloc ?_ _)); exact BK148.out⟩, ⟨by (with_reducible repeat (first | refine blk_drewN ?_ _ | refine blk_drew ?_ | refine blk_alloc ?_ _)); refine blk_put (cs := #[.int .i64 t150, .int .i64 t151, .int .i64 x145002_2]) ?_ 2 _ rfl; (with_reducible repeat (first | refine blk_drewN ?_ _ | refine blk_drew ?_ | refine blk_alloc ?_ _)); refine blk_put (cs := #[.int .i64 t150, .int .i64 x145001_2, .int .i64 x145002_2]) ?_ 1 _ rfl; (with_reducible repeat (first | refine blk_drewN ?_ _ | refine blk_drew ?_ | refine blk_alloc ?_ _)); refine blk_put (cs := #[.int .i64 x145000_2, .int .i64 x145001_2, .int .i64 x145002_2]) ?_ 0 _ rfl; (with_reducible repeat (first | refine blk_drewN ?_ _ | refine blk_drew ?_ | refine blk_alloc ?_ _)); exact BK149.out⟩, ⟨by repeat (first | (with_reducible first | exact HB.out | apply below_alloc | apply pw_below_drewN | apply below_drew1 | refine below_set ?_ GE144.out | refine below_set ?_ GE148.out | refine below_set ?_ GE149.out) | exact HB.out)⟩⟩
           ·rw [if_neg c28] at H
            have c28b0 : (((rd_T39 l1 x24_2).f0) == 1) = false := beq_eq_false_iff_ne.mpr c28
            have c28b1 : (((rd_T39 l1 x24_2).f0) != 1) = true := bne_iff_ne.mpr c28
            (first | rw [c28b0] | (simp only [i64_w, i32_w]; rw [c28b0]) | skip)
            by_cases c37 : ((rd_T39 l1 x24_2).f0) = 2
            ·rw [if_pos c37] at H
             have c37b0 : (((rd_T39 l1 x24_2).f0) == 2) = true := beq_iff_eq.mpr c37
             have c37b1 : (((rd_T39 l1 x24_2).f0) != 2) = false := bne_eq_false_iff_eq.mpr c37
             clear c37
             replace H := Option.bind_eq_some_iff.mp H
             obtain ⟨⟨t154, t155, t156, t157⟩, A380, H⟩ := H
             replace H : (grapevinelaw06_EpochGrows.j2 k2 x5_2 t157 l1 (l1.length : Int) x24_2 x145000_2 x145001_2 x145002_2 ((rd_T39 l1 x24_2).f0) ((rd_T39 l1 x24_2).f1) t154 t155 t156) = some r := H
             have A38 := Aside0.mk A380
             clear A380
             have H' := Aside0.mk H
             clear H
             have hnb39 := NB144_148.out
             have hnc39 := NB148_144.out
             have hnb40 := NB144_149.out
             have hnc40 := NB149_144.out
             have hcz41_0 : w23.cell? ⟨gb144, 0, none⟩ = some (.int .i64 x145000_2) := (blk_cell BK144.out 0).trans rfl
             have hcz41_1 : w23.cell? ⟨gb144, 1, none⟩ = some (.int .i64 x145001_2) := (blk_cell BK144.out 1).trans rfl
             have hcz41_2 : w23.cell? ⟨gb144, 2, none⟩ = some (.int .i64 x145002_2) := (blk_cell BK144.out 2).trans rfl
             have hfz41_0 := blk_frozen BK144.out 0
             have hfz41_1 := blk_frozen BK144.out 1
             have hfz41_2 := blk_frozen BK144.out 2
             go_wp2_with (first | ((with_reducible refine gate_callee (f := 20) rfl ?_); refine goesL_ (some 44) rfl rfl Try.func20 (by kernel_rfl) rfl #[.agg #[.int .i64 x145000_2, .int .i64 x145001_2, .int .i64 x145002_2]] rfl (by (try simp only [List.map_toArray, List.map_cons, List.map_nil]); first | done | rfl | (simp only [List.length_drop, List.length_take]; rfl)) ?_; (with_reducible refine (epoch_Epochs_Stand.calls x145000_2 x145001_2 x145002_2 t154 t155 t156 t157 _ A38.out).mono ?_); rintro e w42 ⟨rfl, hb⟩; refine ⟨_, rfl, ?_⟩; have n0_ := Aside0.mk (Kd.R_below (by (with_reducible repeat (first | apply Kd.R_alloc | apply Kd.R_drewN | apply Kd.R_drew)); exact (Kd.R_mono (Kd.R_far (p := ⟨gb149, 2, none⟩) (Kd.R_far (p := ⟨gb149, 1, none⟩) (Kd.R_far (p := ⟨gb149, 0, none⟩) (Kd.R_types HO_5.out BK149.out (by decide)) (fun _ hk => hk.2) (.int .i64 x145000_2)) (fun _ hk => hk.2) (.int .i64 x145001_2)) (fun _ hk => hk.2) (.int .i64 x145002_2)) (fun _ h_ => h_.1))) hb); have n1_ := Aside0.mk (blk_below (g := gb144) (o := .cells #[.int .i64 x145000_2, .int .i64 x145001_2, .int .i64 x145002_2] 23 (0, 0)) (by (with_reducible repeat (first | refine blk_drewN ?_ _ | refine blk_drew ?_ | refine blk_alloc ?_ _)); refine blk_far ?_ NB144_149.out _; (with_reducible repeat (first | refine blk_drewN ?_ _ | refine blk_drew ?_ | refine blk_alloc ?_ _)); refine blk_far ?_ NB144_149.out _; (with_reducible repeat (first | refine blk_drewN ?_ _ | refine blk_drew ?_ | refine blk_alloc ?_ _)); refine blk_far ?_ NB144_149.out _; (with_reducible repeat (first | refine blk_drewN ?_ _ | refine blk_drew ?_ | refine blk_alloc ?_ _)); exact BK144.out) hb); have n2_ := Aside0.mk (blk_below (g := gb148) (o := .cells #[.int .i64 ((rd_T39 l1 x24_2).f0), .int .i64 ((rd_T39 l1 x24_2).f1)] 39 (0, 0)) (by (with_reducible repeat (first | refine blk_drewN ?_ _ | refine blk_drew ?_ | refine blk_alloc ?_ _)); refine blk_far ?_ NB148_149.out _; (with_reducible repeat (first | refine blk_drewN ?_ _ | refine blk_drew ?_ | refine blk_alloc ?_ _)); refine blk_far ?_ NB148_149.out _; (with_reducible repeat (first | refine blk_drewN ?_ _ | refine blk_drew ?_ | refine blk_alloc ?_ _)); refine blk_far ?_ NB148_149.out _; (with_reducible repeat (first | refine blk_drewN ?_ _ | refine blk_drew ?_ | refine blk_alloc ?_ _)); exact BK148.out) hb); have n3_ := Aside0.mk (blk_below (g := gb149) (o := .cells #[.int .i64 x145000_2, .int .i64 x145001_2, .int .i64 x145002_2] 23 (0, 0)) (by (with_reducible repeat (first | refine blk_drewN ?_ _ | refine blk_drew ?_ | refine blk_alloc ?_ _)); refine blk_put (cs := #[.int .i64 x145000_2, .int .i64 x145001_2, .int .i64 0]) ?_ 2 _ rfl; (with_reducible repeat (first | refine blk_drewN ?_ _ | refine blk_drew ?_ | refine blk_alloc ?_ _)); refine blk_put (cs := #[.int .i64 x145000_2, .int .i64 0, .int .i64 0]) ?_ 1 _ rfl; (with_reducible repeat (first | refine blk_drewN ?_ _ | refine blk_drew ?_ | refine blk_alloc ?_ _)); refine blk_put (cs := #[.int .i64 0, .int .i64 0, .int .i64 0]) ?_ 0 _ rfl; (with_reducible repeat (first | refine blk_drewN ?_ _ | refine blk_drew ?_ | refine blk_alloc ?_ _)); exact BK149.out) hb); have n4_ := Aside0.mk (below_step (by repeat (first | (with_reducible first | exact HB.out | apply below_alloc | apply pw_below_drewN | apply below_drew1 | refine below_set ?_ GE144.out | refine below_set ?_ GE148.out | refine below_set ?_ GE149.out) | exact HB.out)) hb); clear HO_5; clear BK144; clear BK148; clear BK149; clear HB; have HO_5 := n0_; have BK144 := n1_; have BK148 := n2_; have BK149 := n3_; have HB := n4_; clear n0_ n1_ n2_ n3_ n4_; (try clear hb); (try clear hb2); (try clear hk); (try clear hi); have hnb43 := NB149_148.out; have hnc43 := NB148_149.out; have hcz44_0 : w42.cell? ⟨gb149, 0, none⟩ = some (.int .i64 x145000_2) := (blk_cell BK149.out 0).trans rfl; have hcz44_1 : w42.cell? ⟨gb149, 1, none⟩ = some (.int .i64 x145001_2) := (blk_cell BK149.out 1).trans rfl; have hcz44_2 : w42.cell? ⟨gb149, 2, none⟩ = some (.int .i64 x145002_2) := (blk_cell BK149.out 2).trans rfl; have hfz44_0 := blk_frozen BK149.out 0; have hfz44_1 := blk_frozen BK149.out 1; have hfz44_2 := blk_frozen BK149.out 2))
             go_meet
             case rel => exact ⟨_, (t157), (t154), (t155), (t156), (by first | rfl | (simp; done) | (simp [*]; done)), H', ⟨by have := HJ4.out; have := HK2.out; first | omega | exact Nat.le_refl _⟩, ⟨by (with_reducible repeat (first | apply Kd.R_alloc | apply Kd.R_drewN | apply Kd.R_drew)); exact Kd.R_mono (Kd.R_far (p := ⟨gb149, 2, none⟩) (Kd.R_far (p := ⟨gb149, 1, none⟩) (Kd.R_far (p := ⟨gb149, 0, none⟩) (Kd.R_types HO_5.out BK149.out (by decide)) (fun _ hk => hk.2) (.int .i64 t154)) (fun _ hk => hk.2) (.int .i64 t155)) (fun _ hk => hk.2) (.int .i64 t156)) (fun _ hk => trivial)⟩, ⟨by (with_reducible repeat (first | refine blk_drewN ?_ _ | refine blk_drew ?_ | refine blk_alloc ?_ _)); refine blk_far ?_ NB144_149.out _; (with_reducible repeat (first | refine blk_drewN ?_ _ | refine blk_drew ?_ | refine blk_alloc ?_ _)); refine blk_far ?_ NB144_149.out _; (with_reducible repeat (first | refine blk_drewN ?_ _ | refine blk_drew ?_ | refine blk_alloc ?_ _)); refine blk_far ?_ NB144_149.out _; (with_reducible repeat (first | refine blk_drewN ?_ _ | refine blk_drew ?_ | refine blk_alloc ?_ _)); exact BK144.out⟩, ⟨by (with_reducible repeat (first | refine blk_drewN ?_ _ | refine blk_drew ?_ | refine blk_alloc ?_ _)); refine blk_far ?_ NB148_149.out _; (with_reducible repeat (first | refine blk_drewN ?_ _ | refine blk_drew ?_ | refine blk_alloc ?_ _)); refine blk_far ?_ NB148_149.out _; (with_reducible repeat (first | refine blk_drewN ?_ _ | refine blk_drew ?_ | refine blk_alloc ?_ _)); refine blk_far ?_ NB148_149.out _; (with_reducible repeat (first | refine blk_drewN ?_ _ | refine blk_drew ?_ | refine blk_alloc ?_ _)); exact BK148.out⟩, ⟨by (with_reducible repeat (first | refine blk_drewN ?_ _ | refine blk_drew ?_ | refine blk_alloc ?_ _)); refine blk_put (cs := #[.int .i64 t154, .int .i64 t155, .int .i64 x145002_2]) ?_ 2 _ rfl; (with_reducible repeat (first | refine blk_drewN ?_ _ | refine blk_drew ?_ | refine blk_alloc ?_ _)); refine blk_put (cs := #[.int .i64 t154, .int .i64 x145001_2, .int .i64 x145002_2]) ?_ 1 _ rfl; (with_reducible repeat (first | refine blk_drewN ?_ _ | refine blk_drew ?_ | refine blk_alloc ?_ _)); refine blk_put (cs := #[.int .i64 x145000_2, .int .i64 x145001_2, .int .i64 x145002_2]) ?_ 0 _ rfl; (with_reducible repeat (first | refine blk_drewN ?_ _ | refine blk_drew ?_ | refine blk_alloc ?_ _)); exact BK149.out⟩, ⟨by repeat (first | (with_reducible first | exact HB.out | apply below_alloc | apply pw_below_drewN | apply below_drew1 | refine below_set ?_ GE144.out | refine below_set ?_ GE148.out | refine below_set ?_ GE149.out) | exact HB.out)⟩⟩
            ·rw [if_neg c37] at H
             have c37b0 : (((rd_T39 l1 x24_2).f0) == 2) = false := beq_eq_false_iff_ne.mpr c37
             have c37b1 : (((rd_T39 l1 x24_2).f0) != 2) = true := bne_iff_ne.mpr c37
             by_cases c45 : ((rd_T39 l1 x24_2).f0) = 3
             ·rw [if_pos c45] at H
              have c45b0 : (((rd_T39 l1 x24_2).f0) == 3) = true := beq_iff_eq.mpr c45
              have c45b1 : (((rd_T39 l1 x24_2).f0) != 3) = false := bne_eq_false_iff_eq.mpr c45
              clear c45
              replace H := Option.bind_eq_some_iff.mp H
              obtain ⟨⟨t158, t159, t160, t161⟩, A460, H⟩ := H
              replace H : (grapevinelaw06_EpochGrows.j2 k2 x5_2 t161 l1 (l1.length : Int) x24_2 x145000_2 x145001_2 x145002_2 ((rd_T39 l1 x24_2).f0) ((rd_T39 l1 x24_2).f1) t158 t159 t160) = some r := H
              have A46 := Aside0.mk A460
              clear A460
              have H' := Aside0.mk H
              clear H
              have hnb47 := NB144_148.out
              have hnc47 := NB148_144.out
              have hnb48 := NB144_149.out
              have hnc48 := NB149_144.out
              have hcz49_0 : w23.cell? ⟨gb144, 0, none⟩ = some (.int .i64 x145000_2) := (blk_cell BK144.out 0).trans rfl
              have hcz49_1 : w23.cell? ⟨gb144, 1, none⟩ = some (.int .i64 x145001_2) := (blk_cell BK144.out 1).trans rfl
              have hcz49_2 : w23.cell? ⟨gb144, 2, none⟩ = some (.int .i64 x145002_2) := (blk_cell BK144.out 2).trans rfl
              have hfz49_0 := blk_frozen BK144.out 0
              have hfz49_1 := blk_frozen BK144.out 1
              have hfz49_2 := blk_frozen BK144.out 2
              have hnb50 := NB148_149.out
              have hnc50 := NB149_148.out
              have hcz51_0 : w23.cell? ⟨gb148, 0, none⟩ = some (.int .i64 ((rd_T39 l1 x24_2).f0)) := (blk_cell BK148.out 0).trans rfl
              have hcz51_1 : w23.cell? ⟨gb148, 1, none⟩ = some (.int .i64 ((rd_T39 l1 x24_2).f1)) := (blk_cell BK148.out 1).trans rfl
              have hfz51_0 := blk_frozen BK148.out 0
              have hfz51_1 := blk_frozen BK148.out 1
              go_wp2_with (first | ((with_reducible refine gate_callee (f := 13) rfl ?_); refine goesL_ (some 53) rfl rfl Try.func13 (by kernel_rfl) rfl #[.agg #[.int .i64 x145000_2, .int .i64 x145001_2, .int .i64 x145002_2], .int .i64 ((rd_T39 l1 x24_2).f1)] rfl (by (try simp only [List.map_toArray, List.map_cons, List.map_nil]); first | done | rfl | (simp only [List.length_drop, List.length_take]; rfl)) ?_; (with_reducible refine (epoch_Epochs_Grant.calls x145000_2 x145001_2 x145002_2 ((rd_T39 l1 x24_2).f1) t158 t159 t160 t161 _ A46.out).mono ?_); rintro e w52 ⟨rfl, hb⟩; refine ⟨_, rfl, ?_⟩; have n0_ := Aside0.mk (Kd.R_below (by (with_reducible repeat (first | apply Kd.R_alloc | apply Kd.R_drewN | apply Kd.R_drew)); exact (Kd.R_mono (Kd.R_far (p := ⟨gb149, 2, none⟩) (Kd.R_far (p := ⟨gb149, 1, none⟩) (Kd.R_far (p := ⟨gb149, 0, none⟩) (Kd.R_types HO_5.out BK149.out (by decide)) (fun _ hk => hk.2) (.int .i64 x145000_2)) (fun _ hk => hk.2) (.int .i64 x145001_2)) (fun _ hk => hk.2) (.int .i64 x145002_2)) (fun _ h_ => h_.1))) hb); have n1_ := Aside0.mk (blk_below (g := gb144) (o := .cells #[.int .i64 x145000_2, .int .i64 x145001_2, .int .i64 x145002_2] 23 (0, 0)) (by (with_reducible repeat (first | refine blk_drewN ?_ _ | refine blk_drew ?_ | refine blk_alloc ?_ _)); refine blk_far ?_ NB144_149.out _; (with_reducible repeat (first | refine blk_drewN ?_ _ | refine blk_drew ?_ | refine blk_alloc ?_ _)); refine blk_far ?_ NB144_149.out _; (with_reducible repeat (first | refine blk_drewN ?_ _ | refine blk_drew ?_ | refine blk_alloc ?_ _)); refine blk_far ?_ NB144_149.out _; (with_reducible repeat (first | refine blk_drewN ?_ _ | refine blk_drew ?_ | refine blk_alloc ?_ _)); exact BK144.out) hb); have n2_ := Aside0.mk (blk_below (g := gb148) (o := .cells #[.int .i64 ((rd_T39 l1 x24_2).f0), .int .i64 ((rd_T39 l1 x24_2).f1)] 39 (0, 0)) (by (with_reducible repeat (first | refine blk_drewN ?_ _ | refine blk_drew ?_ | refine blk_alloc ?_ _)); refine blk_far ?_ NB148_149.out _; (with_reducible repeat (first | refine blk_drewN ?_ _ | refine blk_drew ?_ | refine blk_alloc ?_ _)); refine blk_far ?_ NB148_149.out _; (with_reducible repeat (first | refine blk_drewN ?_ _ | refine blk_drew ?_ | refine blk_alloc ?_ _)); refine blk_far ?_ NB148_149.out _; (with_reducible repeat (first | refine blk_drewN ?_ _ | refine blk_drew ?_ | refine blk_alloc ?_ _)); exact BK148.out) hb); have n3_ := Aside0.mk (blk_below (g := gb149) (o := .cells #[.int .i64 x145000_2, .int .i64 x145001_2, .int .i64 x145002_2] 23 (0, 0)) (by (with_reducible repeat (first | refine blk_drewN ?_ _ | refine blk_drew ?_ | refine blk_alloc ?_ _)); refine blk_put (cs := #[.int .i64 x145000_2, .int .i64 x145001_2, .int .i64 0]) ?_ 2 _ rfl; (with_reducible repeat (first | refine blk_drewN ?_ _ | refine blk_drew ?_ | refine blk_alloc ?_ _)); refine blk_put (cs := #[.int .i64 x145000_2, .int .i64 0, .int .i64 0]) ?_ 1 _ rfl; (with_reducible repeat (first | refine blk_drewN ?_ _ | refine blk_drew ?_ | refine blk_alloc ?_ _)); refine blk_put (cs := #[.int .i64 0, .int .i64 0, .int .i64 0]) ?_ 0 _ rfl; (with_reducible repeat (first | refine blk_drewN ?_ _ | refine blk_drew ?_ | refine blk_alloc ?_ _)); exact BK149.out) hb); have n4_ := Aside0.mk (below_step (by repeat (first | (with_reducible first | exact HB.out | apply below_alloc | apply pw_below_drewN | apply below_drew1 | refine below_set ?_ GE144.out | refine below_set ?_ GE148.out | refine below_set ?_ GE149.out) | exact HB.out)) hb); clear HO_5; clear BK144; clear BK148; clear BK149; clear HB; have HO_5 := n0_; have BK144 := n1_; have BK148 := n2_; have BK149 := n3_; have HB := n4_; clear n0_ n1_ n2_ n3_ n4_; (try clear hb); (try clear hb2); (try clear hk); (try clear hi); have hcz53_0 : w52.cell? ⟨gb149, 0, none⟩ = some (.int .i64 x145000_2) := (blk_cell BK149.out 0).trans rfl; have hcz53_1 : w52.cell? ⟨gb149, 1, none⟩ = some (.int .i64 x145001_2) := (blk_cell BK149.out 1).trans rfl; have hcz53_2 : w52.cell? ⟨gb149, 2, none⟩ = some (.int .i64 x145002_2) := (blk_cell BK149.out 2).trans rfl; have hfz53_0 := blk_frozen BK149.out 0; have hfz53_1 := blk_frozen BK149.out 1; have hfz53_2 := blk_frozen BK149.out 2))
              go_meet
              case rel => exact ⟨_, (t161), (t158), (t159), (t160), (by first | rfl | (simp; done) | (simp [*]; done)), H', ⟨by have := HJ4.out; have := HK2.out; first | omega | exact Nat.le_refl _⟩, ⟨by (with_reducible repeat (first | apply Kd.R_alloc | apply Kd.R_drewN | apply Kd.R_drew)); exact Kd.R_mono (Kd.R_far (p := ⟨gb149, 2, none⟩) (Kd.R_far (p := ⟨gb149, 1, none⟩) (Kd.R_far (p := ⟨gb149, 0, none⟩) (Kd.R_types HO_5.out BK149.out (by decide)) (fun _ hk => hk.2) (.int .i64 t158)) (fun _ hk => hk.2) (.int .i64 t159)) (fun _ hk => hk.2) (.int .i64 t160)) (fun _ hk => trivial)⟩, ⟨by (with_reducible repeat (first | refine blk_drewN ?_ _ | refine blk_drew ?_ | refine blk_alloc ?_ _)); refine blk_far ?_ NB144_149.out _; (with_reducible repeat (first | refine blk_drewN ?_ _ | refine blk_drew ?_ | refine blk_alloc ?_ _)); refine blk_far ?_ NB144_149.out _; (with_reducible repeat (first | refine blk_drewN ?_ _ | refine blk_drew ?_ | refine blk_alloc ?_ _)); refine blk_far ?_ NB144_149.out _; (with_reducible repeat (first | refine blk_drewN ?_ _ | refine blk_drew ?_ | refine blk_alloc ?_ _)); exact BK144.out⟩, ⟨by (with_reducible repeat (first | refine blk_drewN ?_ _ | refine blk_drew ?_ | refine blk_alloc ?_ _)); refine blk_far ?_ NB148_149.out _; (with_reducible repeat (first | refine blk_drewN ?_ _ | refine blk_drew ?_ | refine blk_alloc ?_ _)); refine blk_far ?_ NB148_149.out _; (with_reducible repeat (first | refine blk_drewN ?_ _ | refine blk_drew ?_ | refine blk_alloc ?_ _)); refine blk_far ?_ NB148_149.out _; (with_reducible repeat (first | refine blk_drewN ?_ _ | refine blk_drew ?_ | refine blk_alloc ?_ _)); exact BK148.out⟩, ⟨by (with_reducible repeat (first | refine blk_drewN ?_ _ | refine blk_drew ?_ | refine blk_alloc ?_ _)); refine blk_put (cs := #[.int .i64 t158, .int .i64 t159, .int .i64 x145002_2]) ?_ 2 _ rfl; (with_reducible repeat (first | refine blk_drewN ?_ _ | refine blk_drew ?_ | refine blk_alloc ?_ _)); refine blk_put (cs := #[.int .i64 t158, .int .i64 x145001_2, .int .i64 x145002_2]) ?_ 1 _ rfl; (with_reducible repeat (first | refine blk_drewN ?_ _ | refine blk_drew ?_ | refine blk_alloc ?_ _)); refine blk_put (cs := #[.int .i64 x145000_2, .int .i64 x145001_2, .int .i64 x145002_2]) ?_ 0 _ rfl; (with_reducible repeat (first | refine blk_drewN ?_ _ | refine blk_drew ?_ | refine blk_alloc ?_ _)); exact BK149.out⟩, ⟨by repeat (first | (with_reducible first | exact HB.out | apply below_alloc | apply pw_below_drewN | apply below_drew1 | refine below_set ?_ GE144.out | refine below_set ?_ GE148.out | refine below_set ?_ GE149.out) | exact HB.out)⟩⟩
             ·rw [if_neg c45] at H
              have c45b0 : (((rd_T39 l1 x24_2).f0) == 3) = false := beq_eq_false_iff_ne.mpr c45
              have c45b1 : (((rd_T39 l1 x24_2).f0) != 3) = true := bne_iff_ne.mpr c45
              by_cases c54 : ((rd_T39 l1 x24_2).f0) = 4
              ·rw [if_pos c54] at H
               have c54b0 : (((rd_T39 l1 x24_2).f0) == 4) = true := beq_iff_eq.mpr c54
               have c54b1 : (((rd_T39 l1 x24_2).f0) != 4) = false := bne_eq_false_iff_eq.mpr c54
               clear c54
               replace H := Option.bind_eq_some_iff.mp H
               obtain ⟨⟨t162, t163, t164, t165⟩, A550, H⟩ := H
               replace H : (grapevinelaw06_EpochGrows.j2 k2 x5_2 t165 l1 (l1.length : Int) x24_2 x145000_2 x145001_2 x145002_2 ((rd_T39 l1 x24_2).f0) ((rd_T39 l1 x24_2).f1) t162 t163 t164) = some r := H
               have A55 := Aside0.mk A550
               clear A550
               have H' := Aside0.mk H
               clear H
               have hnb56 := NB144_148.out
               have hnc56 := NB148_144.out
               have hnb57 := NB144_149.out
               have hnc57 := NB149_144.out
               have hcz58_0 : w23.cell? ⟨gb144, 0, none⟩ = some (.int .i64 x145000_2) := (blk_cell BK144.out 0).trans rfl
               have hcz58_1 : w23.cell? ⟨gb144, 1, none⟩ = some (.int .i64 x145001_2) := (blk_cell BK144.out 1).trans rfl
               have hcz58_2 : w23.cell? ⟨gb144, 2, none⟩ = some (.int .i64 x145002_2) := (blk_cell BK144.out 2).trans rfl
               have hfz58_0 := blk_frozen BK144.out 0
               have hfz58_1 := blk_frozen BK144.out 1
               have hfz58_2 := blk_frozen BK144.out 2
               have hnb59 := NB148_149.out
               have hnc59 := NB149_148.out
               have hcz60_0 : w23.cell? ⟨gb148, 0, none⟩ = some (.int .i64 ((rd_T39 l1 x24_2).f0)) := (blk_cell BK148.out 0).trans rfl
               have hcz60_1 : w23.cell? ⟨gb148, 1, none⟩ = some (.int .i64 ((rd_T39 l1 x24_2).f1)) := (blk_cell BK148.out 1).trans rfl
               have hfz60_0 := blk_frozen BK148.out 0
               have hfz60_1 := blk_frozen BK148.out 1
               go_wp2_with (first | ((with_reducible refine gate_callee (f := 16) rfl ?_); refine goesL_ (some 62) rfl rfl Try.func16 (by kernel_rfl) rfl #[.agg #[.int .i64 x145000_2, .int .i64 x145001_2, .int .i64 x145002_2], .int .i64 ((rd_T39 l1 x24_2).f1)] rfl (by (try simp only [List.map_toArray, List.map_cons, List.map_nil]); first | done | rfl | (simp only [List.length_drop, List.length_take]; rfl)) ?_; (with_reducible refine (epoch_Epochs_Win.calls x145000_2 x145001_2 x145002_2 ((rd_T39 l1 x24_2).f1) t162 t163 t164 t165 _ A55.out).mono ?_); rintro e w61 ⟨rfl, hb⟩; refine ⟨_, rfl, ?_⟩; have n0_ := Aside0.mk (Kd.R_below (by (with_reducible repeat (first | apply Kd.R_alloc | apply Kd.R_drewN | apply Kd.R_drew)); exact (Kd.R_mono (Kd.R_far (p := ⟨gb149, 2, none⟩) (Kd.R_far (p := ⟨gb149, 1, none⟩) (Kd.R_far (p := ⟨gb149, 0, none⟩) (Kd.R_types HO_5.out BK149.out (by decide)) (fun _ hk => hk.2) (.int .i64 x145000_2)) (fun _ hk => hk.2) (.int .i64 x145001_2)) (fun _ hk => hk.2) (.int .i64 x145002_2)) (fun _ h_ => h_.1))) hb); have n1_ := Aside0.mk (blk_below (g := gb144) (o := .cells #[.int .i64 x145000_2, .int .i64 x145001_2, .int .i64 x145002_2] 23 (0, 0)) (by (with_reducible repeat (first | refine blk_drewN ?_ _ | refine blk_drew ?_ | refine blk_alloc ?_ _)); refine blk_far ?_ NB144_149.out _; (with_reducible repeat (first | refine blk_drewN ?_ _ | refine blk_drew ?_ | refine blk_alloc ?_ _)); refine blk_far ?_ NB144_149.out _; (with_reducible repeat (first | refine blk_drewN ?_ _ | refine blk_drew ?_ | refine blk_alloc ?_ _)); refine blk_far ?_ NB144_149.out _; (with_reducible repeat (first | refine blk_drewN ?_ _ | refine blk_drew ?_ | refine blk_alloc ?_ _)); exact BK144.out) hb); have n2_ := Aside0.mk (blk_below (g := gb148) (o := .cells #[.int .i64 ((rd_T39 l1 x24_2).f0), .int .i64 ((rd_T39 l1 x24_2).f1)] 39 (0, 0)) (by (with_reducible repeat (first | refine blk_drewN ?_ _ | refine blk_drew ?_ | refine blk_alloc ?_ _)); refine blk_far ?_ NB148_149.out _; (with_reducible repeat (first | refine blk_drewN ?_ _ | refine blk_drew ?_ | refine blk_alloc ?_ _)); refine blk_far ?_ NB148_149.out _; (with_reducible repeat (first | refine blk_drewN ?_ _ | refine blk_drew ?_ | refine blk_alloc ?_ _)); refine blk_far ?_ NB148_149.out _; (with_reducible repeat (first | refine blk_drewN ?_ _ | refine blk_drew ?_ | refine blk_alloc ?_ _)); exact BK148.out) hb); have n3_ := Aside0.mk (blk_below (g := gb149) (o := .cells #[.int .i64 x145000_2, .int .i64 x145001_2, .int .i64 x145002_2] 23 (0, 0)) (by (with_reducible repeat (first | refine blk_drewN ?_ _ | refine blk_drew ?_ | refine blk_alloc ?_ _)); refine blk_put (cs := #[.int .i64 x145000_2, .int .i64 x145001_2, .int .i64 0]) ?_ 2 _ rfl; (with_reducible repeat (first | refine blk_drewN ?_ _ | refine blk_drew ?_ | refine blk_alloc ?_ _)); refine blk_put (cs := #[.int .i64 x145000_2, .int .i64 0, .int .i64 0]) ?_ 1 _ rfl; (with_reducible repeat (first | refine blk_drewN ?_ _ | refine blk_drew ?_ | refine blk_alloc ?_ _)); refine blk_put (cs := #[.int .i64 0, .int .i64 0, .int .i64 0]) ?_ 0 _ rfl; (with_reducible repeat (first | refine blk_drewN ?_ _ | refine blk_drew ?_ | refine blk_alloc ?_ _)); exact BK149.out) hb); have n4_ := Aside0.mk (below_step (by repeat (first | (with_reducible first | exact HB.out | apply below_alloc | apply pw_below_drewN | apply below_drew1 | refine below_set ?_ GE144.out | refine below_set ?_ GE148.out | refine below_set ?_ GE149.out) | exact HB.out)) hb); clear HO_5; clear BK144; clear BK148; clear BK149; clear HB; have HO_5 := n0_; have BK144 := n1_; have BK148 := n2_; have BK149 := n3_; have HB := n4_; clear n0_ n1_ n2_ n3_ n4_; (try clear hb); (try clear hb2); (try clear hk); (try clear hi); have hcz62_0 : w61.cell? ⟨gb149, 0, none⟩ = some (.int .i64 x145000_2) := (blk_cell BK149.out 0).trans rfl; have hcz62_1 : w61.cell? ⟨gb149, 1, none⟩ = some (.int .i64 x145001_2) := (blk_cell BK149.out 1).trans rfl; have hcz62_2 : w61.cell? ⟨gb149, 2, none⟩ = some (.int .i64 x145002_2) := (blk_cell BK149.out 2).trans rfl; have hfz62_0 := blk_frozen BK149.out 0; have hfz62_1 := blk_frozen BK149.out 1; have hfz62_2 := blk_frozen BK149.out 2))
               go_meet
               case rel => exact ⟨_, (t165), (t162), (t163), (t164), (by first | rfl | (simp; done) | (simp [*]; done)), H', ⟨by have := HJ4.out; have := HK2.out; first | omega | exact Nat.le_refl _⟩, ⟨by (with_reducible repeat (first | apply Kd.R_alloc | apply Kd.R_drewN | apply Kd.R_drew)); exact Kd.R_mono (Kd.R_far (p := ⟨gb149, 2, none⟩) (Kd.R_far (p := ⟨gb149, 1, none⟩) (Kd.R_far (p := ⟨gb149, 0, none⟩) (Kd.R_types HO_5.out BK149.out (by decide)) (fun _ hk => hk.2) (.int .i64 t162)) (fun _ hk => hk.2) (.int .i64 t163)) (fun _ hk => hk.2) (.int .i64 t164)) (fun _ hk => trivial)⟩, ⟨by (with_reducible repeat (first | refine blk_drewN ?_ _ | refine blk_drew ?_ | refine blk_alloc ?_ _)); refine blk_far ?_ NB144_149.out _; (with_reducible repeat (first | refine blk_drewN ?_ _ | refine blk_drew ?_ | refine blk_alloc ?_ _)); refine blk_far ?_ NB144_149.out _; (with_reducible repeat (first | refine blk_drewN ?_ _ | refine blk_drew ?_ | refine blk_alloc ?_ _)); refine blk_far ?_ NB144_149.out _; (with_reducible repeat (first | refine blk_drewN ?_ _ | refine blk_drew ?_ | refine blk_alloc ?_ _)); exact BK144.out⟩, ⟨by (with_reducible repeat (first | refine blk_drewN ?_ _ | refine blk_drew ?_ | refine blk_alloc ?_ _)); refine blk_far ?_ NB148_149.out _; (with_reducible repeat (first | refine blk_drewN ?_ _ | refine blk_drew ?_ | refine blk_alloc ?_ _)); refine blk_far ?_ NB148_149.out _; (with_reducible repeat (first | refine blk_drewN ?_ _ | refine blk_drew ?_ | refine blk_alloc ?_ _)); refine blk_far ?_ NB148_149.out _; (with_reducible repeat (first | refine blk_drewN ?_ _ | refine blk_drew ?_ | refine blk_alloc ?_ _)); exact BK148.out⟩, ⟨by (with_reducible repeat (first | refine blk_drewN ?_ _ | refine blk_drew ?_ | refine blk_alloc ?_ _)); refine blk_put (cs := #[.int .i64 t162, .int .i64 t163, .int .i64 x145002_2]) ?_ 2 _ rfl; (with_reducible repeat (first | refine blk_drewN ?_ _ | refine blk_drew ?_ | refine blk_alloc ?_ _)); refine blk_put (cs := #[.int .i64 t162, .int .i64 x145001_2, .int .i64 x145002_2]) ?_ 1 _ rfl; (with_reducible repeat (first | refine blk_drewN ?_ _ | refine blk_drew ?_ | refine blk_alloc ?_ _)); refine blk_put (cs := #[.int .i64 x145000_2, .int .i64 x145001_2, .int .i64 x145002_2]) ?_ 0 _ rfl; (with_reducible repeat (first | refine blk_drewN ?_ _ | refine blk_drew ?_ | refine blk_alloc ?_ _)); exact BK149.out⟩, ⟨by repeat (first | (with_reducible first | exact HB.out | apply below_alloc | apply pw_below_drewN | apply below_drew1 | refine below_set ?_ GE144.out | refine below_set ?_ GE148.out | refine below_set ?_ GE149.out) | exact HB.out)⟩⟩
              ·rw [if_neg c54] at H
               have c54b0 : (((rd_T39 l1 x24_2).f0) == 4) = false := beq_eq_false_iff_ne.mpr c54
               have c54b1 : (((rd_T39 l1 x24_2).f0) != 4) = true := bne_iff_ne.mpr c54
               by_cases c63 : ((rd_T39 l1 x24_2).f0) = 5
               ·rw [if_pos c63] at H
                have c63b0 : (((rd_T39 l1 x24_2).f0) == 5) = true := beq_iff_eq.mpr c63
                have c63b1 : (((rd_T39 l1 x24_2).f0) != 5) = false := bne_eq_false_iff_eq.mpr c63
                clear c63
                replace H := Option.bind_eq_some_iff.mp H
                obtain ⟨⟨t166, t167, t168, t169⟩, A640, H⟩ := H
                replace H : (grapevinelaw06_EpochGrows.j2 k2 x5_2 t169 l1 (l1.length : Int) x24_2 x145000_2 x145001_2 x145002_2 ((rd_T39 l1 x24_2).f0) ((rd_T39 l1 x24_2).f1) t166 t167 t168) = some r := H
                have A64 := Aside0.mk A640
                clear A640
                have H' := Aside0.mk H
                clear H
                have hnb65 := NB144_148.out
                have hnc65 := NB148_144.out
                have hnb66 := NB144_149.out
                have hnc66 := NB149_144.out
                have hcz67_0 : w23.cell? ⟨gb144, 0, none⟩ = some (.int .i64 x145000_2) := (blk_cell BK144.out 0).trans rfl
                have hcz67_1 : w23.cell? ⟨gb144, 1, none⟩ = some (.int .i64 x145001_2) := (blk_cell BK144.out 1).trans rfl
                have hcz67_2 : w23.cell? ⟨gb144, 2, none⟩ = some (.int .i64 x145002_2) := (blk_cell BK144.out 2).trans rfl
                have hfz67_0 := blk_frozen BK144.out 0
                have hfz67_1 := blk_frozen BK144.out 1
                have hfz67_2 := blk_frozen BK144.out 2
                go_wp2_with (first | ((with_reducible refine gate_callee (f := 21) rfl ?_); refine goesL_ (some 69) rfl rfl Try.func21 (by kernel_rfl) rfl #[.agg #[.int .i64 x145000_2, .int .i64 x145001_2, .int .i64 x145002_2]] rfl (by (try simp only [List.map_toArray, List.map_cons, List.map_nil]); first | done | rfl | (simp only [List.length_drop, List.length_take]; rfl)) ?_; (with_reducible refine (epoch_Epochs_Bump.calls x145000_2 x145001_2 x145002_2 t166 t167 t168 t169 _ A64.out).mono ?_); rintro e w68 ⟨rfl, hb⟩; refine ⟨_, rfl, ?_⟩; have n0_ := Aside0.mk (Kd.R_below (by (with_reducible repeat (first | apply Kd.R_alloc | apply Kd.R_drewN | apply Kd.R_drew)); exact (Kd.R_mono (Kd.R_far (p := ⟨gb149, 2, none⟩) (Kd.R_far (p := ⟨gb149, 1, none⟩) (Kd.R_far (p := ⟨gb149, 0, none⟩) (Kd.R_types HO_5.out BK149.out (by decide)) (fun _ hk => hk.2) (.int .i64 x145000_2)) (fun _ hk => hk.2) (.int .i64 x145001_2)) (fun _ hk => hk.2) (.int .i64 x145002_2)) (fun _ h_ => h_.1))) hb); have n1_ := Aside0.mk (blk_below (g := gb144) (o := .cells #[.int .i64 x145000_2, .int .i64 x145001_2, .int .i64 x145002_2] 23 (0, 0)) (by (with_reducible repeat (first | refine blk_drewN ?_ _ | refine blk_drew ?_ | refine blk_alloc ?_ _)); refine blk_far ?_ NB144_149.out _; (with_reducible repeat (first | refine blk_drewN ?_ _ | refine blk_drew ?_ | refine blk_alloc ?_ _)); refine blk_far ?_ NB144_149.out _; (with_reducible repeat (first | refine blk_drewN ?_ _ | refine blk_drew ?_ | refine blk_alloc ?_ _)); refine blk_far ?_ NB144_149.out _; (with_reducible repeat (first | refine blk_drewN ?_ _ | refine blk_drew ?_ | refine blk_alloc ?_ _)); exact BK144.out) hb); have n2_ := Aside0.mk (blk_below (g := gb148) (o := .cells #[.int .i64 ((rd_T39 l1 x24_2).f0), .int .i64 ((rd_T39 l1 x24_2).f1)] 39 (0, 0)) (by (with_reducible repeat (first | refine blk_drewN ?_ _ | refine blk_drew ?_ | refine blk_alloc ?_ _)); refine blk_far ?_ NB148_149.out _; (with_reducible repeat (first | refine blk_drewN ?_ _ | refine blk_drew ?_ | refine blk_alloc ?_ _)); refine blk_far ?_ NB148_149.out _; (with_reducible repeat (first | refine blk_drewN ?_ _ | refine blk_drew ?_ | refine blk_alloc ?_ _)); refine blk_far ?_ NB148_149.out _; (with_reducible repeat (first | refine blk_drewN ?_ _ | refine blk_drew ?_ | refine blk_alloc ?_ _)); exact BK148.out) hb); have n3_ := Aside0.mk (blk_below (g := gb149) (o := .cells #[.int .i64 x145000_2, .int .i64 x145001_2, .int .i64 x145002_2] 23 (0, 0)) (by (with_reducible repeat (first | refine blk_drewN ?_ _ | refine blk_drew ?_ | refine blk_alloc ?_ _)); refine blk_put (cs := #[.int .i64 x145000_2, .int .i64 x145001_2, .int .i64 0]) ?_ 2 _ rfl; (with_reducible repeat (first | refine blk_drewN ?_ _ | refine blk_drew ?_ | refine blk_alloc ?_ _)); refine blk_put (cs := #[.int .i64 x145000_2, .int .i64 0, .int .i64 0]) ?_ 1 _ rfl; (with_reducible repeat (first | refine blk_drewN ?_ _ | refine blk_drew ?_ | refine blk_alloc ?_ _)); refine blk_put (cs := #[.int .i64 0, .int .i64 0, .int .i64 0]) ?_ 0 _ rfl; (with_reducible repeat (first | refine blk_drewN ?_ _ | refine blk_drew ?_ | refine blk_alloc ?_ _)); exact BK149.out) hb); have n4_ := Aside0.mk (below_step (by repeat (first | (with_reducible first | exact HB.out | apply below_alloc | apply pw_below_drewN | apply below_drew1 | refine below_set ?_ GE144.out | refine below_set ?_ GE148.out | refine below_set ?_ GE149.out) | exact HB.out)) hb); clear HO_5; clear BK144; clear BK148; clear BK149; clear HB; have HO_5 := n0_; have BK144 := n1_; have BK148 := n2_; have BK149 := n3_; have HB := n4_; clear n0_ n1_ n2_ n3_ n4_; (try clear hb); (try clear hb2); (try clear hk); (try clear hi); have hnb69 := NB149_148.out; have hnc69 := NB148_149.out; have hcz70_0 : w68.cell? ⟨gb149, 0, none⟩ = some (.int .i64 x145000_2) := (blk_cell BK149.out 0).trans rfl; have hcz70_1 : w68.cell? ⟨gb149, 1, none⟩ = some (.int .i64 x145001_2) := (blk_cell BK149.out 1).trans rfl; have hcz70_2 : w68.cell? ⟨gb149, 2, none⟩ = some (.int .i64 x145002_2) := (blk_cell BK149.out 2).trans rfl; have hfz70_0 := blk_frozen BK149.out 0; have hfz70_1 := blk_frozen BK149.out 1; have hfz70_2 := blk_frozen BK149.out 2))
                go_meet
                case rel => exact ⟨_, (t169), (t166), (t167), (t168), (by first | rfl | (simp; done) | (simp [*]; done)), H', ⟨by have := HJ4.out; have := HK2.out; first | omega | exact Nat.le_refl _⟩, ⟨by (with_reducible repeat (first | apply Kd.R_alloc | apply Kd.R_drewN | apply Kd.R_drew)); exact Kd.R_mono (Kd.R_far (p := ⟨gb149, 2, none⟩) (Kd.R_far (p := ⟨gb149, 1, none⟩) (Kd.R_far (p := ⟨gb149, 0, none⟩) (Kd.R_types HO_5.out BK149.out (by decide)) (fun _ hk => hk.2) (.int .i64 t166)) (fun _ hk => hk.2) (.int .i64 t167)) (fun _ hk => hk.2) (.int .i64 t168)) (fun _ hk => trivial)⟩, ⟨by (with_reducible repeat (first | refine blk_drewN ?_ _ | refine blk_drew ?_ | refine blk_alloc ?_ _)); refine blk_far ?_ NB144_149.out _; (with_reducible repeat (first | refine blk_drewN ?_ _ | refine blk_drew ?_ | refine blk_alloc ?_ _)); refine blk_far ?_ NB144_149.out _; (with_reducible repeat (first | refine blk_drewN ?_ _ | refine blk_drew ?_ | refine blk_alloc ?_ _)); refine blk_far ?_ NB144_149.out _; (with_reducible repeat (first | refine blk_drewN ?_ _ | refine blk_drew ?_ | refine blk_alloc ?_ _)); exact BK144.out⟩, ⟨by (with_reducible repeat (first | refine blk_drewN ?_ _ | refine blk_drew ?_ | refine blk_alloc ?_ _)); refine blk_far ?_ NB148_149.out _; (with_reducible repeat (first | refine blk_drewN ?_ _ | refine blk_drew ?_ | refine blk_alloc ?_ _)); refine blk_far ?_ NB148_149.out _; (with_reducible repeat (first | refine blk_drewN ?_ _ | refine blk_drew ?_ | refine blk_alloc ?_ _)); refine blk_far ?_ NB148_149.out _; (with_reducible repeat (first | refine blk_drewN ?_ _ | refine blk_drew ?_ | refine blk_alloc ?_ _)); exact BK148.out⟩, ⟨by (with_reducible repeat (first | refine blk_drewN ?_ _ | refine blk_drew ?_ | refine blk_alloc ?_ _)); refine blk_put (cs := #[.int .i64 t166, .int .i64 t167, .int .i64 x145002_2]) ?_ 2 _ rfl; (with_reducible repeat (first | refine blk_drewN ?_ _ | refine blk_drew ?_ | refine blk_alloc ?_ _)); refine blk_put (cs := #[.int .i64 t166, .int .i64 x145001_2, .int .i64 x145002_2]) ?_ 1 _ rfl; (with_reducible repeat (first | refine blk_drewN ?_ _ | refine blk_drew ?_ | refine blk_alloc ?_ _)); refine blk_put (cs := #[.int .i64 x145000_2, .int .i64 x145001_2, .int .i64 x145002_2]) ?_ 0 _ rfl; (with_reducible repeat (first | refine blk_drewN ?_ _ | refine blk_drew ?_ | refine blk_alloc ?_ _)); exact BK149.out⟩, ⟨by repeat (first | (with_reducible first | exact HB.out | apply below_alloc | apply pw_below_drewN | apply below_drew1 | refine below_set ?_ GE144.out | refine below_set ?_ GE148.out | refine below_set ?_ GE149.out) | exact HB.out)⟩⟩
               ·rw [if_neg c63] at H
                have c63b0 : (((rd_T39 l1 x24_2).f0) == 5) = false := beq_eq_false_iff_ne.mpr c63
                have c63b1 : (((rd_T39 l1 x24_2).f0) != 5) = true := bne_iff_ne.mpr c63
                have H' := Aside0.mk H
                clear H
                go_wp2
                go_meet
                case rel => exact ⟨_, (10), (x145000_2), (x145001_2), (x145002_2), (by first | rfl | (simp; done) | (simp [*]; done)), H', ⟨by have := HJ4.out; have := HK2.out; first | omega | exact Nat.le_refl _⟩, ⟨by (with_reducible repeat (first | apply Kd.R_alloc | apply Kd.R_drewN | apply Kd.R_drew)); exact Kd.R_mono (Kd.R_far (p := ⟨gb149, 2, none⟩) (Kd.R_far (p := ⟨gb149, 1, none⟩) (Kd.R_far (p := ⟨gb149, 0, none⟩) (Kd.R_types HO_5.out BK149.out (by decide)) (fun _ hk => hk.2) (.int .i64 x145000_2)) (fun _ hk => hk.2) (.int .i64 x145001_2)) (fun _ hk => hk.2) (.int .i64 x145002_2)) (fun _ hk => trivial)⟩, ⟨by (with_reducible repeat (first | refine blk_drewN ?_ _ | refine blk_drew ?_ | refine blk_alloc ?_ _)); refine blk_far ?_ NB144_149.out _; (with_reducible repeat (first | refine blk_drewN ?_ _ | refine blk_drew ?_ | refine blk_alloc ?_ _)); refine blk_far ?_ NB144_149.out _; (with_reducible repeat (first | refine blk_drewN ?_ _ | refine blk_drew ?_ | refine blk_alloc ?_ _)); refine blk_far ?_ NB144_149.out _; (with_reducible repeat (first | refine blk_drewN ?_ _ | refine blk_drew ?_ | refine blk_alloc ?_ _)); exact BK144.out⟩, ⟨by (with_reducible repeat (first | refine blk_drewN ?_ _ | refine blk_drew ?_ | refine blk_alloc ?_ _)); refine blk_far ?_ NB148_149.out _; (with_reducible repeat (first | refine blk_drewN ?_ _ | refine blk_drew ?_ | refine blk_alloc ?_ _)); refine blk_far ?_ NB148_149.out _; (with_reducible repeat (first | refine blk_drewN ?_ _ | refine blk_drew ?_ | refine blk_alloc ?_ _)); refine blk_far ?_ NB148_149.out _; (with_reducible repeat (first | refine blk_drewN ?_ _ | refine blk_drew ?_ | refine blk_alloc ?_ _)); exact BK148.out⟩, ⟨by (with_reducible repeat (first | refine blk_drewN ?_ _ | refine blk_drew ?_ | refine blk_alloc ?_ _)); refine blk_put (cs := #[.int .i64 x145000_2, .int .i64 x145001_2, .int .i64 0]) ?_ 2 _ rfl; (with_reducible repeat (first | refine blk_drewN ?_ _ | refine blk_drew ?_ | refine blk_alloc ?_ _)); refine blk_put (cs := #[.int .i64 x145000_2, .int .i64 0, .int .i64 0]) ?_ 1 _ rfl; (with_reducible repeat (first | refine blk_drewN ?_ _ | refine blk_drew ?_ | refine blk_alloc ?_ _)); refine blk_put (cs := #[.int .i64 0, .int .i64 0, .int .i64 0]) ?_ 0 _ rfl; (with_reducible repeat (first | refine blk_drewN ?_ _ | refine blk_drew ?_ | refine blk_alloc ?_ _)); exact BK149.out⟩, ⟨by repeat (first | (with_reducible first | exact HB.out | apply below_alloc | apply pw_below_drewN | apply below_drew1 | refine below_set ?_ GE144.out | refine below_set ?_ GE148.out | refine below_set ?_ GE149.out) | exact HB.out)⟩⟩
          case rest =>
           clear HC18
           try clear c1
           try clear p1
           try clear q1
           try clear hx1
           try clear c2
           try clear p2
           try clear c3
           try clear c4
           try clear c5
           try clear c6
           try clear c9
           try clear c10
           try clear c12
           try clear c13
           try clear c14
           try clear p14
           try clear q14
           try clear hx14
           try clear c15
           try clear c15b0
           try clear c16
           try clear c16b0
           try clear c17
           try clear c17b0
           try clear c18
           try clear c20
           try clear c21
           try clear c24
           try clear c25
           try clear c28
           try clear c28b0
           try clear c28b1
           try clear c30
           try clear c31
           try clear c33
           try clear c37
           try clear c37b0
           try clear c37b1
           try clear c39
           try clear c40
           try clear c43
           try clear c45
           try clear c45b0
           try clear c45b1
           try clear c47
           try clear c48
           try clear c50
           try clear c54
           try clear c54b0
           try clear c54b1
           try clear c56
           try clear c57
           try clear c59
           try clear c63
           try clear c63b0
           try clear c63b1
           try clear c65
           try clear c66
           try clear c69
           try clear hcz10_0
           try clear hcz10_1
           try clear hcz10_2
           try clear hcz12_0
           try clear hcz12_1
           try clear hcz12_2
           try clear hcz21_0
           try clear hcz21_1
           try clear hcz22_0
           try clear hcz22_1
           try clear hcz22_2
           try clear hcz26_0
           try clear hcz26_1
           try clear hcz26_2
           try clear hcz27_0
           try clear hcz27_1
           try clear hcz32_0
           try clear hcz32_1
           try clear hcz32_2
           try clear hcz34_0
           try clear hcz34_1
           try clear hcz36_0
           try clear hcz36_1
           try clear hcz36_2
           try clear hcz41_0
           try clear hcz41_1
           try clear hcz41_2
           try clear hcz44_0
           try clear hcz44_1
           try clear hcz44_2
           try clear hcz49_0
           try clear hcz49_1
           try clear hcz49_2
           try clear hcz51_0
           try clear hcz51_1
           try clear hcz53_0
           try clear hcz53_1
           try clear hcz53_2
           try clear hcz58_0
           try clear hcz58_1
           try clear hcz58_2
           try clear hcz60_0
           try clear hcz60_1
           try clear hcz62_0
           try clear hcz62_1
           try clear hcz62_2
           try clear hcz67_0
           try clear hcz67_1
           try clear hcz67_2
           try clear hcz70_0
           try clear hcz70_1
           try clear hcz70_2
           try clear hfz10_0
           try clear hfz10_1
           try clear hfz10_2
           try clear hfz12_0
           try clear hfz12_1
           try clear hfz12_2
           try clear hfz21_0
           try clear hfz21_1
           try clear hfz22_0
           try clear hfz22_1
           try clear hfz22_2
           try clear hfz26_0
           try clear hfz26_1
           try clear hfz26_2
           try clear hfz27_0
           try clear hfz27_1
           try clear hfz32_0
           try clear hfz32_1
           try clear hfz32_2
           try clear hfz34_0
           try clear hfz34_1
           try clear hfz36_0
           try clear hfz36_1
           try clear hfz36_2
           try clear hfz41_0
           try clear hfz41_1
           try clear hfz41_2
           try clear hfz44_0
           try clear hfz44_1
           try clear hfz44_2
           try clear hfz49_0
           try clear hfz49_1
           try clear hfz49_2
           try clear hfz51_0
           try clear hfz51_1
           try clear hfz53_0
           try clear hfz53_1
           try clear hfz53_2
           try clear hfz58_0
           try clear hfz58_1
           try clear hfz58_2
           try clear hfz60_0
           try clear hfz60_1
           try clear hfz62_0
           try clear hfz62_1
           try clear hfz62_2
           try clear hfz67_0
           try clear hfz67_1
           try clear hfz67_2
           try clear hfz70_0
           try clear hfz70_1
           try clear hfz70_2
           try clear hx147_0
           try clear hx147_1
           try clear p147
           try clear p2
           try clear q147
           obtain ⟨kq, x9_17, x150000_17, x150001_17, x150002_17, rfl, HA, HJ17, HO_5, BK144, BK148, BK149, HB⟩ := hcut
           cases kq with
           | zero => exact absurd HA.out (by simp [grapevinelaw06_EpochGrows.j2])
           | succ kj17 =>
            have H := HA.out
            clear HA
            simp only [grapevinelaw06_EpochGrows.j2] at H
            by_cases c71 : x9_17 = 0
            ·rw [if_pos c71] at H
             have c71b0 : (x9_17 == 0) = true := beq_iff_eq.mpr c71
             have c71b1 : (x9_17 != 0) = false := bne_eq_false_iff_eq.mpr c71
             clear c71
             have HC72 := Aside0.mk H
             clear H
             go_upto_region 22 with (fail)
             go_cut [97] (fun v97 wc => ∃ (kq : Nat) (x97_71 : Bool), v97 = .bool x97_71 ∧ Aside0 (grapevinelaw06_EpochGrows.j3 kq x5_2 l1 (l1.length : Int) x24_2 x97_71 ((rd_T39 l1 x24_2).f0) ((rd_T39 l1 x24_2).f1) x150000_17 x150001_17 x150002_17 = some r) ∧ Aside0 (kq ≤ kj17) ∧ Aside0 (Kd.R (Kd.int .i64) 3 wc w.heap.size (fun _ => True) u5 x5_2) ∧ Aside0 (wc.heap[gb144]? = some (.cells #[.int .i64 x145000_2, .int .i64 x145001_2, .int .i64 x145002_2] 23 (0, 0))) ∧ Aside0 (wc.heap[gb148]? = some (.cells #[.int .i64 ((rd_T39 l1 x24_2).f0), .int .i64 ((rd_T39 l1 x24_2).f1)] 39 (0, 0))) ∧ Aside0 (wc.heap[gb149]? = some (.cells #[.int .i64 x150000_17, .int .i64 x150001_17, .int .i64 x150002_17] 23 (0, 0))) ∧ Aside0 (Below w.heap.size w wc))
             case first =>
              have H := HC72.out
              clear HC72
              replace H := Option.bind_eq_some_iff.mp H
              obtain ⟨t170, A730, H⟩ := H
              replace H : (if t170 = true then (if x150000_17 < x145000_2 then (grapevinelaw06_EpochGrows.j3 kj17 x5_2 l1 (l1.length : Int) x24_2 true ((rd_T39 l1 x24_2).f0) ((rd_T39 l1 x24_2).f1) x150000_17 x150001_17 x150002_17) else (if x150001_17 < x145001_2 then (grapevinelaw06_EpochGrows.j3 kj17 x5_2 l1 (l1.length : Int) x24_2 true ((rd_T39 l1 x24_2).f0) ((rd_T39 l1 x24_2).f1) x150000_17 x150001_17 x150002_17) else (grapevinelaw06_EpochGrows.j3 kj17 x5_2 l1 (l1.length : Int) x24_2 (decide (x150002_17 < x145002_2)) ((rd_T39 l1 x24_2).f0) ((rd_T39 l1 x24_2).f1) x150000_17 x150001_17 x150002_17))) else (grapevinelaw06_EpochGrows.j3 kj17 x5_2 l1 (l1.length : Int) x24_2 true ((rd_T39 l1 x24_2).f0) ((rd_T39 l1 x24_2).f1) x150000_17 x150001_17 x150002_17)) = some r := H
              have A73 := Aside0.mk A730
              clear A730
              by_cases c74 : t170 = true
              ·subst c74
               have H1 : (if x150000_17 < x145000_2 then (grapevinelaw06_EpochGrows.j3 kj17 x5_2 l1 (l1.length : Int) x24_2 true ((rd_T39 l1 x24_2).f0) ((rd_T39 l1 x24_2).f1) x150000_17 x150001_17 x150002_17) else (if x150001_17 < x145001_2 then (grapevinelaw06_EpochGrows.j3 kj17 x5_2 l1 (l1.length : Int) x24_2 true ((rd_T39 l1 x24_2).f0) ((rd_T39 l1 x24_2).f1) x150000_17 x150001_17 x150002_17) else (grapevinelaw06_EpochGrows.j3 kj17 x5_2 l1 (l1.length : Int) x24_2 (decide (x150002_17 < x145002_2)) ((rd_T39 l1 x24_2).f0) ((rd_T39 l1 x24_2).f1) x150000_17 x150001_17 x150002_17))) = some r := by rw [if_pos rfl] at H; exact H
               clear H
               have H := H1
               clear H1
               by_cases c75 : x150000_17 < x145000_2
               ·rw [if_pos c75] at H
                have c75b0 : decide (x150000_17 < x145000_2) = true := decide_eq_true c75
                clear c75
                (first | rw [c75b0] | (simp only [i64_w, i32_w]; rw [c75b0]) | skip)
                have H' := Aside0.mk H
                clear H
                have hnb76 := NB149_144.out
                have hnc76 := NB144_149.out
                have hnb77 := NB149_148.out
                have hnc77 := NB148_149.out
                have hcz78_0 : wc.cell? ⟨gb149, 0, none⟩ = some (.int .i64 x150000_17) := (blk_cell BK149.out 0).trans rfl
                have hcz78_1 : wc.cell? ⟨gb149, 1, none⟩ = some (.int .i64 x150001_17) := (blk_cell BK149.out 1).trans rfl
                have hcz78_2 : wc.cell? ⟨gb149, 2, none⟩ = some (.int .i64 x150002_17) := (blk_cell BK149.out 2).trans rfl
                have hfz78_0 := blk_frozen BK149.out 0
                have hfz78_1 := blk_frozen BK149.out 1
                have hfz78_2 := blk_frozen BK149.out 2
                go_wp2_with (first | ((with_reducible refine gate_callee (f := 19) rfl ?_); refine goesL_ (some 75) rfl rfl Try.func19 (by kernel_rfl) rfl #[.agg #[.int .i64 x150000_17, .int .i64 x150001_17, .int .i64 x150002_17]] rfl (by (try simp only [List.map_toArray, List.map_cons, List.map_nil]); first | done | rfl | (simp only [List.length_drop, List.length_take]; rfl)) ?_; (with_reducible refine (epoch_Epochs_Right.calls x150000_17 x150001_17 x150002_17 true _ A73.out).mono ?_); rintro e w79 ⟨rfl, hb⟩; refine ⟨_, rfl, ?_⟩; have n0_ := Aside0.mk (Kd.R_below (by (with_reducible repeat (first | apply Kd.R_alloc | apply Kd.R_drewN | apply Kd.R_drew)); exact HO_5.out) hb); have n1_ := Aside0.mk (blk_below (g := gb144) (o := .cells #[.int .i64 x145000_2, .int .i64 x145001_2, .int .i64 x145002_2] 23 (0, 0)) (by (with_reducible repeat (first | refine blk_drewN ?_ _ | refine blk_drew ?_ | refine blk_alloc ?_ _)); exact BK144.out) hb); have n2_ := Aside0.mk (blk_below (g := gb148) (o := .cells #[.int .i64 ((rd_T39 l1 x24_2).f0), .int .i64 ((rd_T39 l1 x24_2).f1)] 39 (0, 0)) (by (with_reducible repeat (first | refine blk_drewN ?_ _ | refine blk_drew ?_ | refine blk_alloc ?_ _)); exact BK148.out) hb); have n3_ := Aside0.mk (blk_below (g := gb149) (o := .cells #[.int .i64 x150000_17, .int .i64 x150001_17, .int .i64 x150002_17] 23 (0, 0)) (by (with_reducible repeat (first | refine blk_drewN ?_ _ | refine blk_drew ?_ | refine blk_alloc ?_ _)); exact BK149.out) hb); have n4_ := Aside0.mk (below_step (by repeat (first | (with_reducible first | exact HB.out | apply below_alloc | apply pw_below_drewN | apply below_drew1 | refine below_set ?_ GE144.out | refine below_set ?_ GE148.out | refine below_set ?_ GE149.out) | exact HB.out)) hb); clear HO_5; clear BK144; clear BK148; clear BK149; clear HB; have HO_5 := n0_; have BK144 := n1_; have BK148 := n2_; have BK149 := n3_; have HB := n4_; clear n0_ n1_ n2_ n3_ n4_; (try clear hb); (try clear hb2); (try clear hk); (try clear hi); have hcz80_0 : w79.cell? ⟨gb149, 0, none⟩ = some (.int .i64 x150000_17) := (blk_cell BK149.out 0).trans rfl; have hcz80_1 : w79.cell? ⟨gb149, 1, none⟩ = some (.int .i64 x150001_17) := (blk_cell BK149.out 1).trans rfl; have hcz80_2 : w79.cell? ⟨gb149, 2, none⟩ = some (.int .i64 x150002_17) := (blk_cell BK149.out 2).trans rfl; have hfz80_0 := blk_frozen BK149.out 0; have hfz80_1 := blk_frozen BK149.out 1; have hfz80_2 := blk_frozen BK149.out 2; have hnb81 := NB144_148.out; have hnc81 := NB148_144.out; have hcz82_0 : w79.cell? ⟨gb144, 0, none⟩ = some (.int .i64 x145000_2) := (blk_cell BK144.out 0).trans rfl; have hcz82_1 : w79.cell? ⟨gb144, 1, none⟩ = some (.int .i64 x145001_2) := (blk_cell BK144.out 1).trans rfl; have hcz82_2 : w79.cell? ⟨gb144, 2, none⟩ = some (.int .i64 x145002_2) := (blk_cell BK144.out 2).trans rfl; have hfz82_0 := blk_frozen BK144.out 0; have hfz82_1 := blk_frozen BK144.out 1; have hfz82_2 := blk_frozen BK144.out 2))
                go_meet
                case rel => exact ⟨_, (true), (by first | rfl | (simp; done) | (simp [*]; done)), H', ⟨by have := HJ4.out; have := HK2.out; have := HJ17.out; first | omega | exact Nat.le_refl _⟩, ⟨by (with_reducible repeat (first | apply Kd.R_alloc | apply Kd.R_drewN | apply Kd.R_drew)); exact HO_5.out⟩, ⟨by (with_reducible repeat (first | refine blk_drewN ?_ _ | refine blk_drew ?_ | refine blk_alloc ?_ _)); exact BK144.out⟩, ⟨by (with_reducible repeat (first | refine blk_drewN ?_ _ | refine blk_drew ?_ | refine blk_alloc ?_ _)); exact BK148.out⟩, ⟨by (with_reducible repeat (first | refine blk_drewN ?_ _ | refine blk_drew ?_ | refine blk_alloc ?_ _)); exact BK149.out⟩, ⟨by repeat (first | (with_reducible first | exact HB.out | apply below_alloc | apply pw_below_drewN | apply below_drew1 | refine below_set ?_ GE144.out | refine below_set ?_ GE148.out | refine below_set ?_ GE149.out) | exact HB.out)⟩⟩
               ·rw [if_neg c75] at H
                have c75b0 : decide (x150000_17 < x145000_2) = false := decide_eq_false c75
                clear c75
                (first | rw [c75b0] | (simp only [i64_w, i32_w]; rw [c75b0]) | skip)
                by_cases c83 : x150001_17 < x145001_2
                ·rw [if_pos c83] at H
                 have c83b0 : decide (x150001_17 < x145001_2) = true := decide_eq_true c83
                 clear c83
                 have H' := Aside0.mk H
                 clear H
                 have hnb84 := NB149_144.out
                 have hnc84 := NB144_149.out
                 have hnb85 := NB149_148.out
                 have hnc85 := NB148_149.out
                 have hcz86_0 : wc.cell? ⟨gb149, 0, none⟩ = some (.int .i64 x150000_17) := (blk_cell BK149.out 0).trans rfl
                 have hcz86_1 : wc.cell? ⟨gb149, 1, none⟩ = some (.int .i64 x150001_17) := (blk_cell BK149.out 1).trans rfl
                 have hcz86_2 : wc.cell? ⟨gb149, 2, none⟩ = some (.int .i64 x150002_17) := (blk_cell BK149.out 2).trans rfl
                 have hfz86_0 := blk_frozen BK149.out 0
                 have hfz86_1 := blk_frozen BK149.out 1
                 have hfz86_2 := blk_frozen BK149.out 2
                 go_wp2_with (first | ((with_reducible refine gate_callee (f := 19) rfl ?_); refine goesL_ (some 75) rfl rfl Try.func19 (by kernel_rfl) rfl #[.agg #[.int .i64 x150000_17, .int .i64 x150001_17, .int .i64 x150002_17]] rfl (by (try simp only [List.map_toArray, List.map_cons, List.map_nil]); first | done | rfl | (simp only [List.length_drop, List.length_take]; rfl)) ?_; (with_reducible refine (epoch_Epochs_Right.calls x150000_17 x150001_17 x150002_17 true _ A73.out).mono ?_); rintro e w87 ⟨rfl, hb⟩; refine ⟨_, rfl, ?_⟩; have n0_ := Aside0.mk (Kd.R_below (by (with_reducible repeat (first | apply Kd.R_alloc | apply Kd.R_drewN | apply Kd.R_drew)); exact HO_5.out) hb); have n1_ := Aside0.mk (blk_below (g := gb144) (o := .cells #[.int .i64 x145000_2, .int .i64 x145001_2, .int .i64 x145002_2] 23 (0, 0)) (by (with_reducible repeat (first | refine blk_drewN ?_ _ | refine blk_drew ?_ | refine blk_alloc ?_ _)); exact BK144.out) hb); have n2_ := Aside0.mk (blk_below (g := gb148) (o := .cells #[.int .i64 ((rd_T39 l1 x24_2).f0), .int .i64 ((rd_T39 l1 x24_2).f1)] 39 (0, 0)) (by (with_reducible repeat (first | refine blk_drewN ?_ _ | refine blk_drew ?_ | refine blk_alloc ?_ _)); exact BK148.out) hb); have n3_ := Aside0.mk (blk_below (g := gb149) (o := .cells #[.int .i64 x150000_17, .int .i64 x150001_17, .int .i64 x150002_17] 23 (0, 0)) (by (with_reducible repeat (first | refine blk_drewN ?_ _ | refine blk_drew ?_ | refine blk_alloc ?_ _)); exact BK149.out) hb); have n4_ := Aside0.mk (below_step (by repeat (first | (with_reducible first | exact HB.out | apply below_alloc | apply pw_below_drewN | apply below_drew1 | refine below_set ?_ GE144.out | refine below_set ?_ GE148.out | refine below_set ?_ GE149.out) | exact HB.out)) hb); clear HO_5; clear BK144; clear BK148; clear BK149; clear HB; have HO_5 := n0_; have BK144 := n1_; have BK148 := n2_; have BK149 := n3_; have HB := n4_; clear n0_ n1_ n2_ n3_ n4_; (try clear hb); (try clear hb2); (try clear hk); (try clear hi); have hcz88_0 : w87.cell? ⟨gb149, 0, none⟩ = some (.int .i64 x150000_17) := (blk_cell BK149.out 0).trans rfl; have hcz88_1 : w87.cell? ⟨gb149, 1, none⟩ = some (.int .i64 x150001_17) := (blk_cell BK149.out 1).trans rfl; have hcz88_2 : w87.cell? ⟨gb149, 2, none⟩ = some (.int .i64 x150002_17) := (blk_cell BK149.out 2).trans rfl; have hfz88_0 := blk_frozen BK149.out 0; have hfz88_1 := blk_frozen BK149.out 1; have hfz88_2 := blk_frozen BK149.out 2; have hnb89 := NB144_148.out; have hnc89 := NB148_144.out; have hcz90_0 : w87.cell? ⟨gb144, 0, none⟩ = some (.int .i64 x145000_2) := (blk_cell BK144.out 0).trans rfl; have hcz90_1 : w87.cell? ⟨gb144, 1, none⟩ = some (.int .i64 x145001_2) := (blk_cell BK144.out 1).trans rfl; have hcz90_2 : w87.cell? ⟨gb144, 2, none⟩ = some (.int .i64 x145002_2) := (blk_cell BK144.out 2).trans rfl; have hfz90_0 := blk_frozen BK144.out 0; have hfz90_1 := blk_frozen BK144.out 1; have hfz90_2 := blk_frozen BK144.out 2))
                 go_meet
                 case rel => exact ⟨_, (true), (by first | rfl | (simp; done) | (simp [*]; done)), H', ⟨by have := HJ4.out; have := HK2.out; have := HJ17.out; first | omega | exact Nat.le_refl _⟩, ⟨by (with_reducible repeat (first | apply Kd.R_alloc | apply Kd.R_drewN | apply Kd.R_drew)); exact HO_5.out⟩, ⟨by (with_reducible repeat (first | refine blk_drewN ?_ _ | refine blk_drew ?_ | refine blk_alloc ?_ _)); exact BK144.out⟩, ⟨by (with_reducible repeat (first | refine blk_drewN ?_ _ | refine blk_drew ?_ | refine blk_alloc ?_ _)); exact BK148.out⟩, ⟨by (with_reducible repeat (first | refine blk_drewN ?_ _ | refine blk_drew ?_ | refine blk_alloc ?_ _)); exact BK149.out⟩, ⟨by repeat (first | (with_reducible first | exact HB.out | apply below_alloc | apply pw_below_drewN | apply below_drew1 | refine below_set ?_ GE144.out | refine below_set ?_ GE148.out | refine below_set ?_ GE149.out) | exact HB.out)⟩⟩
                ·rw [if_neg c83] at H
                 have c83b0 : decide (x150001_17 < x145001_2) = false := decide_eq_false c83
                 clear c83
                 have H' := Aside0.mk H
                 clear H
                 have hnb91 := NB149_144.out
                 have hnc91 := NB144_149.out
                 have hnb92 := NB149_148.out
                 have hnc92 := NB148_149.out
                 have hcz93_0 : wc.cell? ⟨gb149, 0, none⟩ = some (.int .i64 x150000_17) := (blk_cell BK149.out 0).trans rfl
                 have hcz93_1 : wc.cell? ⟨gb149, 1, none⟩ = some (.int .i64 x150001_17) := (blk_cell BK149.out 1).trans rfl
                 have hcz93_2 : wc.cell? ⟨gb149, 2, none⟩ = some (.int .i64 x150002_17) := (blk_cell BK149.out 2).trans rfl
                 have hfz93_0 := blk_frozen BK149.out 0
                 have hfz93_1 := blk_frozen BK149.out 1
                 have hfz93_2 := blk_frozen BK149.out 2
                 go_wp2_with (first | ((with_reducible refine gate_callee (f := 19) rfl ?_); refine goesL_ (some 75) rfl rfl Try.func19 (by kernel_rfl) rfl #[.agg #[.int .i64 x150000_17, .int .i64 x150001_17, .int .i64 x150002_17]] rfl (by (try simp only [List.map_toArray, List.map_cons, List.map_nil]); first | done | rfl | (simp only [List.length_drop, List.length_take]; rfl)) ?_; (with_reducible refine (epoch_Epochs_Right.calls x150000_17 x150001_17 x150002_17 true _ A73.out).mono ?_); rintro e w94 ⟨rfl, hb⟩; refine ⟨_, rfl, ?_⟩; have n0_ := Aside0.mk (Kd.R_below (by (with_reducible repeat (first | apply Kd.R_alloc | apply Kd.R_drewN | apply Kd.R_drew)); exact HO_5.out) hb); have n1_ := Aside0.mk (blk_below (g := gb144) (o := .cells #[.int .i64 x145000_2, .int .i64 x145001_2, .int .i64 x145002_2] 23 (0, 0)) (by (with_reducible repeat (first | refine blk_drewN ?_ _ | refine blk_drew ?_ | refine blk_alloc ?_ _)); exact BK144.out) hb); have n2_ := Aside0.mk (blk_below (g := gb148) (o := .cells #[.int .i64 ((rd_T39 l1 x24_2).f0), .int .i64 ((rd_T39 l1 x24_2).f1)] 39 (0, 0)) (by (with_reducible repeat (first | refine blk_drewN ?_ _ | refine blk_drew ?_ | refine blk_alloc ?_ _)); exact BK148.out) hb); have n3_ := Aside0.mk (blk_below (g := gb149) (o := .cells #[.int .i64 x150000_17, .int .i64 x150001_17, .int .i64 x150002_17] 23 (0, 0)) (by (with_reducible repeat (first | refine blk_drewN ?_ _ | refine blk_drew ?_ | refine blk_alloc ?_ _)); exact BK149.out) hb); have n4_ := Aside0.mk (below_step (by repeat (first | (with_reducible first | exact HB.out | apply below_alloc | apply pw_below_drewN | apply below_drew1 | refine below_set ?_ GE144.out | refine below_set ?_ GE148.out | refine below_set ?_ GE149.out) | exact HB.out)) hb); clear HO_5; clear BK144; clear BK148; clear BK149; clear HB; have HO_5 := n0_; have BK144 := n1_; have BK148 := n2_; have BK149 := n3_; have HB := n4_; clear n0_ n1_ n2_ n3_ n4_; (try clear hb); (try clear hb2); (try clear hk); (try clear hi); have hcz95_0 : w94.cell? ⟨gb149, 0, none⟩ = some (.int .i64 x150000_17) := (blk_cell BK149.out 0).trans rfl; have hcz95_1 : w94.cell? ⟨gb149, 1, none⟩ = some (.int .i64 x150001_17) := (blk_cell BK149.out 1).trans rfl; have hcz95_2 : w94.cell? ⟨gb149, 2, none⟩ = some (.int .i64 x150002_17) := (blk_cell BK149.out 2).trans rfl; have hfz95_0 := blk_frozen BK149.out 0; have hfz95_1 := blk_frozen BK149.out 1; have hfz95_2 := blk_frozen BK149.out 2; have hnb96 := NB144_148.out; have hnc96 := NB148_144.out; have hcz97_0 : w94.cell? ⟨gb144, 0, none⟩ = some (.int .i64 x145000_2) := (blk_cell BK144.out 0).trans rfl; have hcz97_1 : w94.cell? ⟨gb144, 1, none⟩ = some (.int .i64 x145001_2) := (blk_cell BK144.out 1).trans rfl; have hcz97_2 : w94.cell? ⟨gb144, 2, none⟩ = some (.int .i64 x145002_2) := (blk_cell BK144.out 2).trans rfl; have hfz97_0 := blk_frozen BK144.out 0; have hfz97_1 := blk_frozen BK144.out 1; have hfz97_2 := blk_frozen BK144.out 2))
                 go_meet
                 case rel => exact ⟨_, (decide (x150002_17 < x145002_2)), (by first | rfl | (simp; done) | (simp [*]; done)), H', ⟨by have := HJ4.out; have := HK2.out; have := HJ17.out; first | omega | exact Nat.le_refl _⟩, ⟨by (with_reducible repeat (first | apply Kd.R_alloc | apply Kd.R_drewN | apply Kd.R_drew)); exact HO_5.out⟩, ⟨by (with_reducible repeat (first | refine blk_drewN ?_ _ | refine blk_drew ?_ | refine blk_alloc ?_ _)); exact BK144.out⟩, ⟨by (with_reducible repeat (first | refine blk_drewN ?_ _ | refine blk_drew ?_ | refine blk_alloc ?_ _)); exact BK148.out⟩, ⟨by (with_reducible repeat (first | refine blk_drewN ?_ _ | refine blk_drew ?_ | refine blk_alloc ?_ _)); exact BK149.out⟩, ⟨by repeat (first | (with_reducible first | exact HB.out | apply below_alloc | apply pw_below_drewN | apply below_drew1 | refine below_set ?_ GE144.out | refine below_set ?_ GE148.out | refine below_set ?_ GE149.out) | exact HB.out)⟩⟩
              ·replace c74 := Bool.eq_false_iff.mpr c74
               subst c74
               have H1 : (grapevinelaw06_EpochGrows.j3 kj17 x5_2 l1 (l1.length : Int) x24_2 true ((rd_T39 l1 x24_2).f0) ((rd_T39 l1 x24_2).f1) x150000_17 x150001_17 x150002_17) = some r := by rw [if_neg (show ¬ (false = true) by decide)] at H; exact H
               clear H
               have H := H1
               clear H1
               have H' := Aside0.mk H
               clear H
               have hnb98 := NB149_144.out
               have hnc98 := NB144_149.out
               have hnb99 := NB149_148.out
               have hnc99 := NB148_149.out
               have hcz100_0 : wc.cell? ⟨gb149, 0, none⟩ = some (.int .i64 x150000_17) := (blk_cell BK149.out 0).trans rfl
               have hcz100_1 : wc.cell? ⟨gb149, 1, none⟩ = some (.int .i64 x150001_17) := (blk_cell BK149.out 1).trans rfl
               have hcz100_2 : wc.cell? ⟨gb149, 2, none⟩ = some (.int .i64 x150002_17) := (blk_cell BK149.out 2).trans rfl
               have hfz100_0 := blk_frozen BK149.out 0
               have hfz100_1 := blk_frozen BK149.out 1
               have hfz100_2 := blk_frozen BK149.out 2
               go_wp2_with (first | ((with_reducible refine gate_callee (f := 19) rfl ?_); refine goesL_ (some 75) rfl rfl Try.func19 (by kernel_rfl) rfl #[.agg #[.int .i64 x150000_17, .int .i64 x150001_17, .int .i64 x150002_17]] rfl (by (try simp only [List.map_toArray, List.map_cons, List.map_nil]); first | done | rfl | (simp only [List.length_drop, List.length_take]; rfl)) ?_; (with_reducible refine (epoch_Epochs_Right.calls x150000_17 x150001_17 x150002_17 false _ A73.out).mono ?_); rintro e w101 ⟨rfl, hb⟩; refine ⟨_, rfl, ?_⟩; have n0_ := Aside0.mk (Kd.R_below (by (with_reducible repeat (first | apply Kd.R_alloc | apply Kd.R_drewN | apply Kd.R_drew)); exact HO_5.out) hb); have n1_ := Aside0.mk (blk_below (g := gb144) (o := .cells #[.int .i64 x145000_2, .int .i64 x145001_2, .int .i64 x145002_2] 23 (0, 0)) (by (with_reducible repeat (first | refine blk_drewN ?_ _ | refine blk_drew ?_ | refine blk_alloc ?_ _)); exact BK144.out) hb); have n2_ := Aside0.mk (blk_below (g := gb148) (o := .cells #[.int .i64 ((rd_T39 l1 x24_2).f0), .int .i64 ((rd_T39 l1 x24_2).f1)] 39 (0, 0)) (by (with_reducible repeat (first | refine blk_drewN ?_ _ | refine blk_drew ?_ | refine blk_alloc ?_ _)); exact BK148.out) hb); have n3_ := Aside0.mk (blk_below (g := gb149) (o := .cells #[.int .i64 x150000_17, .int .i64 x150001_17, .int .i64 x150002_17] 23 (0, 0)) (by (with_reducible repeat (first | refine blk_drewN ?_ _ | refine blk_drew ?_ | refine blk_alloc ?_ _)); exact BK149.out) hb); have n4_ := Aside0.mk (below_step (by repeat (first | (with_reducible first | exact HB.out | apply below_alloc | apply pw_below_drewN | apply below_drew1 | refine below_set ?_ GE144.out | refine below_set ?_ GE148.out | refine below_set ?_ GE149.out) | exact HB.out)) hb); clear HO_5; clear BK144; clear BK148; clear BK149; clear HB; have HO_5 := n0_; have BK144 := n1_; have BK148 := n2_; have BK149 := n3_; have HB := n4_; clear n0_ n1_ n2_ n3_ n4_; (try clear hb); (try clear hb2); (try clear hk); (try clear hi)))
               go_meet
               case rel => exact ⟨_, (true), (by first | rfl | (simp; done) | (simp [*]; done)), H', ⟨by have := HJ4.out; have := HK2.out; have := HJ17.out; first | omega | exact Nat.le_refl _⟩, ⟨by (with_reducible repeat (first | apply Kd.R_alloc | apply Kd.R_drewN | apply Kd.R_drew)); exact HO_5.out⟩, ⟨by (with_reducible repeat (first | refine blk_drewN ?_ _ | refine blk_drew ?_ | refine blk_alloc ?_ _)); exact BK144.out⟩, ⟨by (with_reducible repeat (first | refine blk_drewN ?_ _ | refine blk_drew ?_ | refine blk_alloc ?_ _)); exact BK148.out⟩, ⟨by (with_reducible repeat (first | refine blk_drewN ?_ _ | refine blk_drew ?_ | refine blk_alloc ?_ _)); exact BK149.out⟩, ⟨by repeat (first | (with_reducible first | exact HB.out | apply below_alloc | apply pw_below_drewN | apply below_drew1 | refine below_set ?_ GE144.out | refine below_set ?_ GE148.out | refine below_set ?_ GE149.out) | exact HB.out)⟩⟩
             case rest =>
              clear HC72
              try clear c1
              try clear p1
              try clear q1
              try clear hx1
              try clear c2
              try clear p2
              try clear c3
              try clear c4
              try clear c5
              try clear c6
              try clear c7
              try clear c8
              try clear c9
              try clear c10
              try clear c12
              try clear c13
              try clear c14
              try clear p14
              try clear q14
              try clear hx14
              try clear c15
              try clear c15b0
              try clear c16
              try clear c16b0
              try clear c17
              try clear c17b0
              try clear c18
              try clear c19
              try clear c20
              try clear c21
              try clear c24
              try clear c25
              try clear c28
              try clear c28b0
              try clear c28b1
              try clear c30
              try clear c31
              try clear c33
              try clear c37
              try clear c37b0
              try clear c37b1
              try clear c39
              try clear c40
              try clear c43
              try clear c45
              try clear c45b0
              try clear c45b1
              try clear c47
              try clear c48
              try clear c50
              try clear c54
              try clear c54b0
              try clear c54b1
              try clear c56
              try clear c57
              try clear c59
              try clear c63
              try clear c63b0
              try clear c63b1
              try clear c65
              try clear c66
              try clear c69
              try clear c71
              try clear c71b0
              try clear c71b1
              try clear c74
              try clear c75
              try clear c75b0
              try clear c76
              try clear c77
              try clear c81
              try clear c83
              try clear c83b0
              try clear c84
              try clear c85
              try clear c89
              try clear c91
              try clear c92
              try clear c96
              try clear c98
              try clear c99
              try clear hcz100_0
              try clear hcz100_1
              try clear hcz100_2
              try clear hcz10_0
              try clear hcz10_1
              try clear hcz10_2
              try clear hcz12_0
              try clear hcz12_1
              try clear hcz12_2
              try clear hcz21_0
              try clear hcz21_1
              try clear hcz22_0
              try clear hcz22_1
              try clear hcz22_2
              try clear hcz26_0
              try clear hcz26_1
              try clear hcz26_2
              try clear hcz27_0
              try clear hcz27_1
              try clear hcz32_0
              try clear hcz32_1
              try clear hcz32_2
              try clear hcz34_0
              try clear hcz34_1
              try clear hcz36_0
              try clear hcz36_1
              try clear hcz36_2
              try clear hcz41_0
              try clear hcz41_1
              try clear hcz41_2
              try clear hcz44_0
              try clear hcz44_1
              try clear hcz44_2
              try clear hcz49_0
              try clear hcz49_1
              try clear hcz49_2
              try clear hcz51_0
              try clear hcz51_1
              try clear hcz53_0
              try clear hcz53_1
              try clear hcz53_2
              try clear hcz58_0
              try clear hcz58_1
              try clear hcz58_2
              try clear hcz60_0
              try clear hcz60_1
              try clear hcz62_0
              try clear hcz62_1
              try clear hcz62_2
              try clear hcz67_0
              try clear hcz67_1
              try clear hcz67_2
              try clear hcz70_0
              try clear hcz70_1
              try clear hcz70_2
              try clear hcz78_0
              try clear hcz78_1
              try clear hcz78_2
              try clear hcz80_0
              try clear hcz80_1
              try clear hcz80_2
              try clear hcz82_0
              try clear hcz82_1
              try clear hcz82_2
              try clear hcz86_0
              try clear hcz86_1
              try clear hcz86_2
              try clear hcz88_0
              try clear hcz88_1
              try clear hcz88_2
              try clear hcz90_0
              try clear hcz90_1
              try clear hcz90_2
              try clear hcz93_0
              try clear hcz93_1
              try clear hcz93_2
              try clear hcz95_0
              try clear hcz95_1
              try clear hcz95_2
              try clear hcz97_0
              try clear hcz97_1
              try clear hcz97_2
              try clear hfz100_0
              try clear hfz100_1
              try clear hfz100_2
              try clear hfz10_0
              try clear hfz10_1
              try clear hfz10_2
              try clear hfz12_0
              try clear hfz12_1
              try clear hfz12_2
              try clear hfz21_0
              try clear hfz21_1
              try clear hfz22_0
              try clear hfz22_1
              try clear hfz22_2
              try clear hfz26_0
              try clear hfz26_1
              try clear hfz26_2
              try clear hfz27_0
              try clear hfz27_1
              try clear hfz32_0
              try clear hfz32_1
              try clear hfz32_2
              try clear hfz34_0
              try clear hfz34_1
              try clear hfz36_0
              try clear hfz36_1
              try clear hfz36_2
              try clear hfz41_0
              try clear hfz41_1
              try clear hfz41_2
              try clear hfz44_0
              try clear hfz44_1
              try clear hfz44_2
              try clear hfz49_0
              try clear hfz49_1
              try clear hfz49_2
              try clear hfz51_0
              try clear hfz51_1
              try clear hfz53_0
              try clear hfz53_1
              try clear hfz53_2
              try clear hfz58_0
              try clear hfz58_1
              try clear hfz58_2
              try clear hfz60_0
              try clear hfz60_1
              try clear hfz62_0
              try clear hfz62_1
              try clear hfz62_2
              try clear hfz67_0
              try clear hfz67_1
              try clear hfz67_2
              try clear hfz70_0
              try clear hfz70_1
              try clear hfz70_2
              try clear hfz78_0
              try clear hfz78_1
              try clear hfz78_2
              try clear hfz80_0
              try clear hfz80_1
              try clear hfz80_2
              try clear hfz82_0
              try clear hfz82_1
              try clear hfz82_2
              try clear hfz86_0
              try clear hfz86_1
              try clear hfz86_2
              try clear hfz88_0
              try clear hfz88_1
              try clear hfz88_2
              try clear hfz90_0
              try clear hfz90_1
              try clear hfz90_2
              try clear hfz93_0
              try clear hfz93_1
              try clear hfz93_2
              try clear hfz95_0
              try clear hfz95_1
              try clear hfz95_2
              try clear hfz97_0
              try clear hfz97_1
              try clear hfz97_2
              try clear hx147_0
              try clear hx147_1
              try clear p1
              try clear p14
              try clear p147
              try clear p2
              try clear q1
              try clear q14
              try clear q147
              obtain ⟨kq, x97_71, rfl, HA, HJ71, HO_5, BK144, BK148, BK149, HB⟩ := hcut
              cases kq with
              | zero => exact absurd HA.out (by simp [grapevinelaw06_EpochGrows.j3])
              | succ kj71 =>
               have H := HA.out
               clear HA
               simp only [grapevinelaw06_EpochGrows.j3] at H
               by_cases c102 : x97_71 = true
               ·subst c102
                have H1 : (some false) = some r := by rw [if_pos rfl] at H; exact H
                clear H
                have H := H1
                clear H1
                obtain rfl := Option.some.inj H
                go_wp2
                go_ret
                exact ⟨by first | rfl | (simp [errW_none, errW_some] <;> rfl) | (simp [*, errW_none, errW_some] <;> rfl), by repeat (first | (with_reducible first | exact HB.out | apply below_alloc | apply pw_below_drewN | apply below_drew1 | refine below_set ?_ GE144.out | refine below_set ?_ GE148.out | refine below_set ?_ GE149.out) | exact HB.out)⟩
               ·replace c102 := Bool.eq_false_iff.mpr c102
                subst c102
                have H1 : (if ((rd_T39 l1 x24_2).f0) = 3 then (grapevinelaw06_EpochGrows.l1 kj71 x5_2 l1 (l1.length : Int) x24_2 x5_2 (x5_2.length : Int) 0 ((rd_T39 l1 x24_2).f0) ((rd_T39 l1 x24_2).f1) x150000_17 x150001_17 x150002_17) else (grapevinelaw06_EpochGrows.l0 kj71 x5_2 l1 (l1.length : Int) (wrap64 (x24_2 + 1)) x150000_17 x150001_17 x150002_17)) = some r := by rw [if_neg (show ¬ (false = true) by decide)] at H; exact H
                clear H
                have H := H1
                clear H1
                by_cases c103 : ((rd_T39 l1 x24_2).f0) = 3
                ·rw [if_pos c103] at H
                 have c103b0 : (((rd_T39 l1 x24_2).f0) == 3) = true := beq_iff_eq.mpr c103
                 have c103b1 : (((rd_T39 l1 x24_2).f0) != 3) = false := bne_eq_false_iff_eq.mpr c103
                 clear c103
                 have H' := Aside0.mk H
                 clear H
                 have hnb104 := NB148_144.out
                 have hnc104 := NB144_148.out
                 have hnb105 := NB148_149.out
                 have hnc105 := NB149_148.out
                 have hcz106_0 : wc.cell? ⟨gb148, 0, none⟩ = some (.int .i64 ((rd_T39 l1 x24_2).f0)) := (blk_cell BK148.out 0).trans rfl
                 have hcz106_1 : wc.cell? ⟨gb148, 1, none⟩ = some (.int .i64 ((rd_T39 l1 x24_2).f1)) := (blk_cell BK148.out 1).trans rfl
                 have hfz106_0 := blk_frozen BK148.out 0
                 have hfz106_1 := blk_frozen BK148.out 1
                 obtain ⟨Ao107, co107, eo107⟩ := Kd.R_slice HO_5.out
                 subst eo107
                 go_wp2
                 go_loopg [103] kj71 (fun kq v103 w' => ∃ (x103_5 : Int), v103 = .int .i64 x103_5 ∧ Aside0 (grapevinelaw06_EpochGrows.l1 kq x5_2 l1 (l1.length : Int) x24_2 x5_2 (x5_2.length : Int) x103_5 ((rd_T39 l1 x24_2).f0) ((rd_T39 l1 x24_2).f1) x150000_17 x150001_17 x150002_17 = some r) ∧ Aside0 (kq ≤ kj71) ∧ Aside0 (Kd.R (Kd.int .i64) 3 w' w.heap.size (fun _ => True) (.slice Ao107 x5_2.length co107) x5_2) ∧ Aside0 (Kd.R (Kd.int .i64) 3 w' w.heap.size (fun _ => True) (.slice Ao107 x5_2.length co107) x5_2) ∧ Aside0 (w'.heap[gb144]? = some (.cells #[.int .i64 x145000_2, .int .i64 x145001_2, .int .i64 x145002_2] 23 (0, 0))) ∧ Aside0 (w'.heap[gb148]? = some (.cells #[.int .i64 ((rd_T39 l1 x24_2).f0), .int .i64 ((rd_T39 l1 x24_2).f1)] 39 (0, 0))) ∧ Aside0 (w'.heap[gb149]? = some (.cells #[.int .i64 x150000_17, .int .i64 x150001_17, .int .i64 x150002_17] 23 (0, 0))) ∧ Aside0 (Below w.heap.size w w'))
                 case atStart => exact ⟨(0), (by first | rfl | (simp; done) | (simp [*]; done)), H', ⟨Nat.le_refl _⟩, ⟨by (with_reducible repeat (first | apply Kd.R_alloc | apply Kd.R_drewN | apply Kd.R_drew)); exact HO_5.out⟩, ⟨by (with_reducible repeat (first | apply Kd.R_alloc | apply Kd.R_drewN | apply Kd.R_drew)); exact HO_5.out⟩, ⟨by (with_reducible repeat (first | refine blk_drewN ?_ _ | refine blk_drew ?_ | refine blk_alloc ?_ _)); exact BK144.out⟩, ⟨by (with_reducible repeat (first | refine blk_drewN ?_ _ | refine blk_drew ?_ | refine blk_alloc ?_ _)); exact BK148.out⟩, ⟨by (with_reducible repeat (first | refine blk_drewN ?_ _ | refine blk_drew ?_ | refine blk_alloc ?_ _)); exact BK149.out⟩, ⟨by repeat (first | (with_reducible first | exact HB.out | apply below_alloc | apply pw_below_drewN | apply below_drew1 | refine below_set ?_ GE144.out | refine below_set ?_ GE148.out | refine below_set ?_ GE149.out) | exact HB.out)⟩⟩
                 case round =>
                  clear H'
                  try clear c1
                  try clear p1
                  try clear q1
                  try clear hx1
                  try clear c2
                  try clear p2
                  try clear c3
                  try clear c4
                  try clear c5
                  try clear c6
                  try clear p6
                  try clear c7
                  try clear c8
                  try clear c9
                  try clear c10
                  try clear c12
                  try clear c13
                  try clear c14
                  try clear p14
                  try clear q14
                  try clear hx14
                  try clear c15
                  try clear c15b0
                  try clear c16
                  try clear c16b0
                  try clear c17
                  try clear c17b0
                  try clear c18
                  try clear c19
                  try clear c20
                  try clear c21
                  try clear c24
                  try clear c25
                  try clear c28
                  try clear c28b0
                  try clear c28b1
                  try clear c30
                  try clear c31
                  try clear c33
                  try clear c37
                  try clear c37b0
                  try clear c37b1
                  try clear c39
                  try clear c40
                  try clear c43
                  try clear c45
                  try clear c45b0
                  try clear c45b1
                  try clear c47
                  try clear c48
                  try clear c50
                  try clear c54
                  try clear c54b0
                  try clear c54b1
                  try clear c56
                  try clear c57
                  try clear c59
                  try clear c63
                  try clear c63b0
                  try clear c63b1
                  try clear p64
                  try clear c65
                  try clear c66
                  try clear c69
                  try clear c71
                  try clear c71b0
                  try clear c71b1
                  try clear c74
                  try clear c75
                  try clear c75b0
                  try clear c76
                  try clear c77
                  try clear c81
                  try clear c83
                  try clear c83b0
                  try clear c84
                  try clear c85
                  try clear c89
                  try clear c91
                  try clear c92
                  try clear c96
                  try clear c98
                  try clear c99
                  try clear c102
                  try clear c103
                  try clear c103b0
                  try clear c103b1
                  try clear c104
                  try clear c105
                  try clear hcz100_0
                  try clear hcz100_1
                  try clear hcz100_2
                  try clear hcz106_0
                  try clear hcz106_1
                  try clear hcz10_0
                  try clear hcz10_1
                  try clear hcz10_2
                  try clear hcz12_0
                  try clear hcz12_1
                  try clear hcz12_2
                  try clear hcz21_0
                  try clear hcz21_1
                  try clear hcz22_0
                  try clear hcz22_1
                  try clear hcz22_2
                  try clear hcz26_0
                  try clear hcz26_1
                  try clear hcz26_2
                  try clear hcz27_0
                  try clear hcz27_1
                  try clear hcz32_0
                  try clear hcz32_1
                  try clear hcz32_2
                  try clear hcz34_0
                  try clear hcz34_1
                  try clear hcz36_0
                  try clear hcz36_1
                  try clear hcz36_2
                  try clear hcz41_0
                  try clear hcz41_1
                  try clear hcz41_2
                  try clear hcz44_0
                  try clear hcz44_1
                  try clear hcz44_2
                  try clear hcz49_0
                  try clear hcz49_1
                  try clear hcz49_2
                  try clear hcz51_0
                  try clear hcz51_1
                  try clear hcz53_0
                  try clear hcz53_1
                  try clear hcz53_2
                  try clear hcz58_0
                  try clear hcz58_1
                  try clear hcz58_2
                  try clear hcz60_0
                  try clear hcz60_1
                  try clear hcz62_0
                  try clear hcz62_1
                  try clear hcz62_2
                  try clear hcz67_0
                  try clear hcz67_1
                  try clear hcz67_2
                  try clear hcz70_0
                  try clear hcz70_1
                  try clear hcz70_2
                  try clear hcz78_0
                  try clear hcz78_1
                  try clear hcz78_2
                  try clear hcz80_0
                  try clear hcz80_1
                  try clear hcz80_2
                  try clear hcz82_0
                  try clear hcz82_1
                  try clear hcz82_2
                  try clear hcz86_0
                  try clear hcz86_1
                  try clear hcz86_2
                  try clear hcz88_0
                  try clear hcz88_1
                  try clear hcz88_2
                  try clear hcz90_0
                  try clear hcz90_1
                  try clear hcz90_2
                  try clear hcz93_0
                  try clear hcz93_1
                  try clear hcz93_2
                  try clear hcz95_0
                  try clear hcz95_1
                  try clear hcz95_2
                  try clear hcz97_0
                  try clear hcz97_1
                  try clear hcz97_2
                  try clear hfz100_0
                  try clear hfz100_1
                  try clear hfz100_2
                  try clear hfz106_0
                  try clear hfz106_1
                  try clear hfz10_0
                  try clear hfz10_1
                  try clear hfz10_2
                  try clear hfz12_0
                  try clear hfz12_1
                  try clear hfz12_2
                  try clear hfz21_0
                  try clear hfz21_1
                  try clear hfz22_0
                  try clear hfz22_1
                  try clear hfz22_2
                  try clear hfz26_0
                  try clear hfz26_1
                  try clear hfz26_2
                  try clear hfz27_0
                  try clear hfz27_1
                  try clear hfz32_0
                  try clear hfz32_1
                  try clear hfz32_2
                  try clear hfz34_0
                  try clear hfz34_1
                  try clear hfz36_0
                  try clear hfz36_1
                  try clear hfz36_2
                  try clear hfz41_0
                  try clear hfz41_1
                  try clear hfz41_2
                  try clear hfz44_0
                  try clear hfz44_1
                  try clear hfz44_2
                  try clear hfz49_0
                  try clear hfz49_1
                  try clear hfz49_2
                  try clear hfz51_0
                  try clear hfz51_1
                  try clear hfz53_0
                  try clear hfz53_1
                  try clear hfz53_2
                  try clear hfz58_0
                  try clear hfz58_1
                  try clear hfz58_2
                  try clear hfz60_0
                  try clear hfz60_1
                  try clear hfz62_0
                  try clear hfz62_1
                  try clear hfz62_2
                  try clear hfz67_0
                  try clear hfz67_1
                  try clear hfz67_2
                  try clear hfz70_0
                  try clear hfz70_1
                  try clear hfz70_2
                  try clear hfz78_0
                  try clear hfz78_1
                  try clear hfz78_2
                  try clear hfz80_0
                  try clear hfz80_1
                  try clear hfz80_2
                  try clear hfz82_0
                  try clear hfz82_1
                  try clear hfz82_2
                  try clear hfz86_0
                  try clear hfz86_1
                  try clear hfz86_2
                  try clear hfz88_0
                  try clear hfz88_1
                  try clear hfz88_2
                  try clear hfz90_0
                  try clear hfz90_1
                  try clear hfz90_2
                  try clear hfz93_0
                  try clear hfz93_1
                  try clear hfz93_2
                  try clear hfz95_0
                  try clear hfz95_1
                  try clear hfz95_2
                  try clear hfz97_0
                  try clear hfz97_1
                  try clear hfz97_2
                  try clear hx147_0
                  try clear hx147_1
                  try clear p1
                  try clear p14
                  try clear p147
                  try clear p2
                  try clear q1
                  try clear q14
                  try clear q147
                  obtain ⟨x103_5, rfl, HA, HK5, HO_5, HO_101, BK144, BK148, BK149, HB⟩ := hrel
                  cases gk with
                  | zero => exact absurd HA.out (by simp [grapevinelaw06_EpochGrows.l1])
                  | succ k5 =>
                   have H := HA.out
                   clear HA
                   simp only [grapevinelaw06_EpochGrows.l1] at H
                   by_cases c108 : x103_5 < (x5_2.length : Int)
                   ·rw [if_pos c108] at H
                    have c108b0 : decide (x103_5 < (x5_2.length : Int)) = true := decide_eq_true c108
                    clear c108
                    by_cases c109 : 0 ≤ x103_5
                    ·rw [if_pos c109] at H
                     have c109b0 : decide (0 ≤ x103_5) = true := decide_eq_true c109
                     clear c109
                     by_cases c110 : x103_5 < (x5_2.length : Int)
                     ·rw [if_pos c110] at H
                      have c110b0 : decide (x103_5 < (x5_2.length : Int)) = true := decide_eq_true c110
                      clear c110
                      by_cases c111 : (rd x5_2 x103_5) = ((rd_T39 l1 x24_2).f1)
                      ·rw [if_pos c111] at H
                       have c111b0 : ((rd x5_2 x103_5) == ((rd_T39 l1 x24_2).f1)) = true := beq_iff_eq.mpr c111
                       have c111b1 : ((rd x5_2 x103_5) != ((rd_T39 l1 x24_2).f1)) = false := bne_eq_false_iff_eq.mpr c111
                       clear c111
                       obtain rfl := Option.some.inj H
                       have p171 : 0 ≤ (x103_5 : Int) := of_decide_eq_true (by first | (with_reducible assumption) | assumption)
                       have q171 : x103_5 < (x5_2.length : Int) := of_decide_eq_true (by first | (with_reducible assumption) | assumption)
                       obtain ⟨ad171, e171, hx171_0⟩ := Kd.at_int (Kd.R_reads' HO_101.out).2.2 x103_5 p171 q171
                       cases e171
                       replace p171 := eq_true p171
                       replace q171 := eq_true q171
                       have hnb112 := NB148_144.out
                       have hnc112 := NB144_148.out
                       have hnb113 := NB148_149.out
                       have hnc113 := NB149_148.out
                       have hcz114_0 : wr.cell? ⟨gb148, 0, none⟩ = some (.int .i64 ((rd_T39 l1 x24_2).f0)) := (blk_cell BK148.out 0).trans rfl
                       have hcz114_1 : wr.cell? ⟨gb148, 1, none⟩ = some (.int .i64 ((rd_T39 l1 x24_2).f1)) := (blk_cell BK148.out 1).trans rfl
                       have hfz114_0 := blk_frozen BK148.out 0
                       have hfz114_1 := blk_frozen BK148.out 1
                       go_wp2
                       go_ret
                       exact ⟨by first | rfl | (simp [errW_none, errW_some] <;> rfl) | (simp [*, errW_none, errW_some] <;> rfl), by repeat (first | (with_reducible first | exact HB.out | apply below_alloc | apply pw_below_drewN | apply below_drew1 | refine below_set ?_ GE144.out | refine below_set ?_ GE148.out | refine below_set ?_ GE149.out) | exact HB.out)⟩
                      ·rw [if_neg c111] at H
                       have c111b0 : ((rd x5_2 x103_5) == ((rd_T39 l1 x24_2).f1)) = false := beq_eq_false_iff_ne.mpr c111
                       have c111b1 : ((rd x5_2 x103_5) != ((rd_T39 l1 x24_2).f1)) = true := bne_iff_ne.mpr c111
                       have H' := Aside0.mk H
                       clear H
                       have p171 : 0 ≤ (x103_5 : Int) := of_decide_eq_true (by first | (with_reducible assumption) | assumption)
                       have q171 : x103_5 < (x5_2.length : Int) := of_decide_eq_true (by first | (with_reducible assumption) | assumption)
                       obtain ⟨ad171, e171, hx171_0⟩ := Kd.at_int (Kd.R_reads' HO_101.out).2.2 x103_5 p171 q171
                       cases e171
                       replace p171 := eq_true p171
                       replace q171 := eq_true q171
                       have hnb115 := NB148_144.out
                       have hnc115 := NB144_148.out
                       have hnb116 := NB148_149.out
                       have hnc116 := NB149_148.out
                       have hcz117_0 : wr.cell? ⟨gb148, 0, none⟩ = some (.int .i64 ((rd_T39 l1 x24_2).f0)) := (blk_cell BK148.out 0).trans rfl
                       have hcz117_1 : wr.cell? ⟨gb148, 1, none⟩ = some (.int .i64 ((rd_T39 l1 x24_2).f1)) := (blk_cell BK148.out 1).trans rfl
                       have hfz117_0 := blk_frozen BK148.out 0
                       have hfz117_1 := blk_frozen BK148.out 1
                       go_wp2
                       go_roundg k5
                       case measure => have := HJ4.out; have := HK2.out; have := HJ17.out; have := HJ71.out; have := HK5.out; omega
                       case rel => exact ⟨(wrap64 (x103_5 + 1)), (by first | rfl | (simp; done) | (simp [*]; done)), H', ⟨by have := HJ4.out; have := HK2.out; have := HJ17.out; have := HJ71.out; have := HK5.out; omega⟩, ⟨by (with_reducible repeat (first | apply Kd.R_alloc | apply Kd.R_drewN | apply Kd.R_drew)); exact HO_5.out⟩, ⟨by (with_reducible repeat (first | apply Kd.R_alloc | apply Kd.R_drewN | apply Kd.R_drew)); exact HO_101.out⟩, ⟨by (with_reducible repeat (first | refine blk_drewN ?_ _ | refine blk_drew ?_ | refine blk_alloc ?_ _)); exact BK144.out⟩, ⟨by (with_reducible repeat (first | refine blk_drewN ?_ _ | refine blk_drew ?_ | refine blk_alloc ?_ _)); exact BK148.out⟩, ⟨by (with_reducible repeat (first | refine blk_drewN ?_ _ | refine blk_drew ?_ | refine blk_alloc ?_ _)); exact BK149.out⟩, ⟨by repeat (first | (with_reducible first | exact HB.out | apply below_alloc | apply pw_below_drewN | apply below_drew1 | refine below_set ?_ GE144.out | refine below_set ?_ GE148.out | refine below_set ?_ GE149.out) | exact HB.out)⟩⟩
                     ·rw [if_neg c110] at H
                      exact absurd H (by simp)
                    ·rw [if_neg c109] at H
                     exact absurd H (by simp)
                   ·rw [if_neg c108] at H
                    have c108b0 : decide (x103_5 < (x5_2.length : Int)) = false := decide_eq_false c108
                    clear c108
                    by_cases c118 : x5_2.length < 17592186044416
                    ·rw [if_pos c118] at H
                     have LMc118 := Aside0.mk c118
                     clear c118
                     obtain ⟨y172, hy172⟩ : ∃ y_ : List Int, y_ = (x5_2 ++ [((rd_T39 l1 x24_2).f1)]) := ⟨_, rfl⟩
                     replace H : (grapevinelaw06_EpochGrows.l0 k5 y172 l1 (l1.length : Int) (wrap64 (x24_2 + 1)) x150000_17 x150001_17 x150002_17) = some r := by first | (rw [hy172]; with_reducible exact H) | (have H2_ := (Option.bind_some _ _).symm.trans H; rw [hy172]; with_reducible exact H2_) | (have H2_ := (Option.bind_some _ _).symm.trans H; with_reducible exact H2_) | with_reducible exact H | (rw [hy172]; exact H) | exact H
                     have Ny172 := Aside0.mk hy172
                     clear hy172
                     have H' := Aside0.mk H
                     clear H
                     have hnb119 := NB148_144.out
                     have hnc119 := NB144_148.out
                     have hnb120 := NB148_149.out
                     have hnc120 := NB149_148.out
                     have hcz121_0 : wr.cell? ⟨gb148, 0, none⟩ = some (.int .i64 ((rd_T39 l1 x24_2).f0)) := (blk_cell BK148.out 0).trans rfl
                     have hcz121_1 : wr.cell? ⟨gb148, 1, none⟩ = some (.int .i64 ((rd_T39 l1 x24_2).f1)) := (blk_cell BK148.out 1).trans rfl
                     have hfz121_0 := blk_frozen BK148.out 0
                     have hfz121_1 := blk_frozen BK148.out 1
                     go_wp2_with (first | ((with_reducible refine gate_builtin (b := .append) (xs := #[.tmp 112, .tmp 115]) rfl ?_); (try (refine gate_guard (by rfl) ?_; dsimp only)); at_builtin; refine Kd.R_append (Kd.int .i64) (w0 := w) w.heap.size rfl (.tmp 112) (.tmp 115) 35 3 (.int .i64 0) 8 rfl Try.underlying35 info3 rfl (by decide) (by omega) (.slice Ao107 x5_2.length co107) x5_2 ((rd_T39 l1 x24_2).f1) [.int .i64 ((rd_T39 l1 x24_2).f1)] (fun _ => True) (fun _ => False) rfl rfl ?aP (fun _ hk => hk.elim) ?aF ?aO ?aB ?aS ?aL ?_; (case aP => exact rfl); (case aB => exact (by repeat (first | (with_reducible first | exact HB.out | apply below_alloc | apply pw_below_drewN | apply below_drew1 | refine below_set ?_ GE144.out | refine below_set ?_ GE148.out | refine below_set ?_ GE149.out) | exact HB.out))); (case aF => exact (fun _ _ => trivial)); (case aO => exact (by (with_reducible repeat (first | apply Kd.R_alloc | apply Kd.R_drewN | apply Kd.R_drew)); exact HO_5.out)); (case aS => exact (below_size (by repeat (first | (with_reducible first | exact HB.out | apply below_alloc | apply pw_below_drewN | apply below_drew1 | refine below_set ?_ GE144.out | refine below_set ?_ GE148.out | refine below_set ?_ GE149.out) | exact HB.out)))); (case aL => have := LMc118.out; omega); intro v173 w122 ho hb hg hat; rw [← Ny172.out] at ho; have n0_ := Aside0.mk (blk_grown (g := gb144) (o := .cells #[.int .i64 x145000_2, .int .i64 x145001_2, .int .i64 x145002_2] 23 (0, 0)) (by (with_reducible repeat (first | refine blk_drewN ?_ _ | refine blk_drew ?_ | refine blk_alloc ?_ _)); exact BK144.out) hg (Kd.R_ne HO_5.out BK144.out (by decide))); have n1_ := Aside0.mk (blk_grown (g := gb148) (o := .cells #[.int .i64 ((rd_T39 l1 x24_2).f0), .int .i64 ((rd_T39 l1 x24_2).f1)] 39 (0, 0)) (by (with_reducible repeat (first | refine blk_drewN ?_ _ | refine blk_drew ?_ | refine blk_alloc ?_ _)); exact BK148.out) hg (Kd.R_ne HO_5.out BK148.out (by decide))); have n2_ := Aside0.mk (blk_grown (g := gb149) (o := .cells #[.int .i64 x150000_17, .int .i64 x150001_17, .int .i64 x150002_17] 23 (0, 0)) (by (with_reducible repeat (first | refine blk_drewN ?_ _ | refine blk_drew ?_ | refine blk_alloc ?_ _)); exact BK149.out) hg (Kd.R_ne HO_5.out BK149.out (by decide))); have n3_ := Aside0.mk (hb); have n4_ := Aside0.mk (ho); clear BK144; clear BK148; clear BK149; clear HB; clear HO_5; have BK144 := n0_; have BK148 := n1_; have BK149 := n2_; have HB := n3_; have HO174 := n4_; clear n0_ n1_ n2_ n3_ n4_; clear ho hb hg hat; have hnb123 := NB149_144.out; have hnc123 := NB144_149.out; have hcz124_0 : w122.cell? ⟨gb149, 0, none⟩ = some (.int .i64 x150000_17) := (blk_cell BK149.out 0).trans rfl; have hcz124_1 : w122.cell? ⟨gb149, 1, none⟩ = some (.int .i64 x150001_17) := (blk_cell BK149.out 1).trans rfl; have hcz124_2 : w122.cell? ⟨gb149, 2, none⟩ = some (.int .i64 x150002_17) := (blk_cell BK149.out 2).trans rfl; have hfz124_0 := blk_frozen BK149.out 0; have hfz124_1 := blk_frozen BK149.out 1; have hfz124_2 := blk_frozen BK149.out 2; have hcz125_0 : w122.cell? ⟨gb144, 0, none⟩ = some (.int .i64 x145000_2) := (blk_cell BK144.out 0).trans rfl; have hcz125_1 : w122.cell? ⟨gb144, 1, none⟩ = some (.int .i64 x145001_2) := (blk_cell BK144.out 1).trans rfl; have hcz125_2 : w122.cell? ⟨gb144, 2, none⟩ = some (.int .i64 x145002_2) := (blk_cell BK144.out 2).trans rfl; have hfz125_0 := blk_frozen BK144.out 0; have hfz125_1 := blk_frozen BK144.out 1; have hfz125_2 := blk_frozen BK144.out 2))
                     go_roundg k5
                     case measure => have := HJ4.out; have := HK2.out; have := HJ17.out; have := HJ71.out; have := HK5.out; omega
                     case rel => exact ⟨(y172), (wrap64 (x24_2 + 1)), (x150000_17), (x150001_17), (x150002_17), (by first | rfl | (simp; done) | (simp [*]; done)), H', ⟨by have := HJ4.out; have := HK2.out; have := HJ17.out; have := HJ71.out; have := HK5.out; omega⟩, ⟨by (with_reducible repeat (first | apply Kd.R_alloc | apply Kd.R_drewN | apply Kd.R_drew)); exact Kd.R_mono (Kd.R_far (p := ⟨gb144, 2, none⟩) (Kd.R_far (p := ⟨gb144, 1, none⟩) (Kd.R_far (p := ⟨gb144, 0, none⟩) (Kd.R_types HO174.out BK144.out (by decide)) (fun _ hk => hk.2) (.int .i64 x150000_17)) (fun _ hk => hk.2) (.int .i64 x150001_17)) (fun _ hk => hk.2) (.int .i64 x150002_17)) (fun _ hk => trivial)⟩, ⟨by (with_reducible repeat (first | refine blk_drewN ?_ _ | refine blk_drew ?_ | refine blk_alloc ?_ _)); refine blk_put (cs := #[.int .i64 x150000_17, .int .i64 x150001_17, .int .i64 x145002_2]) ?_ 2 _ rfl; (with_reducible repeat (first | refine blk_drewN ?_ _ | refine blk_drew ?_ | refine blk_alloc ?_ _)); refine blk_put (cs := #[.int .i64 x150000_17, .int .i64 x145001_2, .int .i64 x145002_2]) ?_ 1 _ rfl; (with_reducible repeat (first | refine blk_drewN ?_ _ | refine blk_drew ?_ | refine blk_alloc ?_ _)); refine blk_put (cs := #[.int .i64 x145000_2, .int .i64 x145001_2, .int .i64 x145002_2]) ?_ 0 _ rfl; (with_reducible repeat (first | refine blk_drewN ?_ _ | refine blk_drew ?_ | refine blk_alloc ?_ _)); exact BK144.out⟩, ⟨by repeat (first | (with_reducible first | exact HB.out | apply below_alloc | apply pw_below_drewN | apply below_drew1 | refine below_set ?_ GE144.out | refine below_set ?_ GE148.out | refine below_set ?_ GE149.out) | exact HB.out)⟩⟩
                    ·rw [if_neg c118] at H
                     exact absurd H (by simp)
                ·rw [if_neg c103] at H
                 have c103b0 : (((rd_T39 l1 x24_2).f0) == 3) = false := beq_eq_false_iff_ne.mpr c103
                 have c103b1 : (((rd_T39 l1 x24_2).f0) != 3) = true := bne_iff_ne.mpr c103
                 have H' := Aside0.mk H
                 clear H
                 have hnb126 := NB148_144.out
                 have hnc126 := NB144_148.out
                 have hnb127 := NB148_149.out
                 have hnc127 := NB149_148.out
                 have hcz128_0 : wc.cell? ⟨gb148, 0, none⟩ = some (.int .i64 ((rd_T39 l1 x24_2).f0)) := (blk_cell BK148.out 0).trans rfl
                 have hcz128_1 : wc.cell? ⟨gb148, 1, none⟩ = some (.int .i64 ((rd_T39 l1 x24_2).f1)) := (blk_cell BK148.out 1).trans rfl
                 have hfz128_0 := blk_frozen BK148.out 0
                 have hfz128_1 := blk_frozen BK148.out 1
                 have hnb129 := NB149_144.out
                 have hnc129 := NB144_149.out
                 have hcz130_0 : wc.cell? ⟨gb149, 0, none⟩ = some (.int .i64 x150000_17) := (blk_cell BK149.out 0).trans rfl
                 have hcz130_1 : wc.cell? ⟨gb149, 1, none⟩ = some (.int .i64 x150001_17) := (blk_cell BK149.out 1).trans rfl
                 have hcz130_2 : wc.cell? ⟨gb149, 2, none⟩ = some (.int .i64 x150002_17) := (blk_cell BK149.out 2).trans rfl
                 have hfz130_0 := blk_frozen BK149.out 0
                 have hfz130_1 := blk_frozen BK149.out 1
                 have hfz130_2 := blk_frozen BK149.out 2
                 have hcz131_0 : wc.cell? ⟨gb144, 0, none⟩ = some (.int .i64 x145000_2) := (blk_cell BK144.out 0).trans rfl
                 have hcz131_1 : wc.cell? ⟨gb144, 1, none⟩ = some (.int .i64 x145001_2) := (blk_cell BK144.out 1).trans rfl
                 have hcz131_2 : wc.cell? ⟨gb144, 2, none⟩ = some (.int .i64 x145002_2) := (blk_cell BK144.out 2).trans rfl
                 have hfz131_0 := blk_frozen BK144.out 0
                 have hfz131_1 := blk_frozen BK144.out 1
                 have hfz131_2 := blk_frozen BK144.out 2
                 go_wp2
                 go_roundg kj71
                 case measure => have := HJ4.out; have := HK2.out; have := HJ17.out; have := HJ71.out; omega
                 case rel => exact ⟨(x5_2), (wrap64 (x24_2 + 1)), (x150000_17), (x150001_17), (x150002_17), (by first | rfl | (simp; done) | (simp [*]; done)), H', ⟨by have := HJ4.out; have := HK2.out; have := HJ17.out; have := HJ71.out; omega⟩, ⟨by (with_reducible repeat (first | apply Kd.R_alloc | apply Kd.R_drewN | apply Kd.R_drew)); exact Kd.R_mono (Kd.R_far (p := ⟨gb144, 2, none⟩) (Kd.R_far (p := ⟨gb144, 1, none⟩) (Kd.R_far (p := ⟨gb144, 0, none⟩) (Kd.R_types HO_5.out BK144.out (by decide)) (fun _ hk => hk.2) (.int .i64 x150000_17)) (fun _ hk => hk.2) (.int .i64 x150001_17)) (fun _ hk => hk.2) (.int .i64 x150002_17)) (fun _ hk => trivial)⟩, ⟨by (with_reducible repeat (first | refine blk_drewN ?_ _ | refine blk_drew ?_ | refine blk_alloc ?_ _)); refine blk_put (cs := #[.int .i64 x150000_17, .int .i64 x150001_17, .int .i64 x145002_2]) ?_ 2 _ rfl; (with_reducible repeat (first | refine blk_drewN ?_ _ | refine blk_drew ?_ | refine blk_alloc ?_ _)); refine blk_put (cs := #[.int .i64 x150000_17, .int .i64 x145001_2, .int .i64 x145002_2]) ?_ 1 _ rfl; (with_reducible repeat (first | refine blk_drewN ?_ _ | refine blk_drew ?_ | refine blk_alloc ?_ _)); refine blk_put (cs := #[.int .i64 x145000_2, .int .i64 x145001_2, .int .i64 x145002_2]) ?_ 0 _ rfl; (with_reducible repeat (first | refine blk_drewN ?_ _ | refine blk_drew ?_ | refine blk_alloc ?_ _)); exact BK144.out⟩, ⟨by repeat (first | (with_reducible first | exact HB.out | apply below_alloc | apply pw_below_drewN | apply below_drew1 | refine below_set ?_ GE144.out | refine below_set ?_ GE148.out | refine below_set ?_ GE149.out) | exact HB.out)⟩⟩
            ·rw [if_neg c71] at H
             have c71b0 : (x9_17 == 0) = false := beq_eq_false_iff_ne.mpr c71
             have c71b1 : (x9_17 != 0) = true := bne_iff_ne.mpr c71
             have H' := Aside0.mk H
             clear H
             go_wp2
             go_roundg kj17
             case measure => have := HJ4.out; have := HK2.out; have := HJ17.out; omega
             case rel => exact ⟨(x5_2), (wrap64 (x24_2 + 1)), (x145000_2), (x145001_2), (x145002_2), (by first | rfl | (simp; done) | (simp [*]; done)), H', ⟨by have := HJ4.out; have := HK2.out; have := HJ17.out; omega⟩, ⟨by (with_reducible repeat (first | apply Kd.R_alloc | apply Kd.R_drewN | apply Kd.R_drew)); exact HO_5.out⟩, ⟨by (with_reducible repeat (first | refine blk_drewN ?_ _ | refine blk_drew ?_ | refine blk_alloc ?_ _)); exact BK144.out⟩, ⟨by repeat (first | (with_reducible first | exact HB.out | apply below_alloc | apply pw_below_drewN | apply below_drew1 | refine below_set ?_ GE144.out | refine below_set ?_ GE148.out | refine below_set ?_ GE149.out) | exact HB.out)⟩⟩
         ·rw [if_neg c17] at H
          exact absurd H (by simp)
        ·rw [if_neg c16] at H
         exact absurd H (by simp)
       ·rw [if_neg c15] at H
        have c15b0 : decide (x24_2 < (l1.length : Int)) = false := decide_eq_false c15
        clear c15
        obtain rfl := Option.some.inj H
        go_wp2
        go_ret
        exact ⟨by first | rfl | (simp [errW_none, errW_some] <;> rfl) | (simp [*, errW_none, errW_some] <;> rfl), by repeat (first | (with_reducible first | exact HB.out | apply below_alloc | apply pw_below_drewN | apply below_drew1 | refine below_set ?_ GE144.out) | exact HB.out)⟩
 ·replace c4 := Bool.eq_false_iff.mpr c4
  subst c4
  have H1 : (some false) = some r := by rw [if_neg (show ¬ (false = true) by decide)] at H; exact H
  clear H
  have H := H1
  clear H1
  obtain rfl := Option.some.inj H
  go_enter Try.func10, Try.ntmps10
  go_wp2_with (first | ((with_reducible refine gate_dst (N := 2) rfl ?_); (try (refine gate_guard (by rfl) ?_; dsimp only)); refine box_event ?hg (N := 2) ?hd (cs := #[.int .i64 a0_0, .int .i64 a0_1, .int .i64 a0_2]) (t := 23) ?hr ?_; (case hd => rfl); (case hg => rfl); (case hr => first | (go_simp; done) | (go_simp; rfl)); intro gb144 hg w132 hbox hb; have n0_ := Aside0.mk (below_step (by repeat (first | (with_reducible first | exact HB.out | apply below_alloc | apply pw_below_drewN | apply below_drew1) | exact HB.out)) hb); have n1_ := Aside0.mk (hbox); have n2_ := Aside0.mk ((by rw [hg]; exact (below_size (by repeat (first | (with_reducible first | exact HB.out | apply below_alloc | apply pw_below_drewN | apply below_drew1) | exact HB.out))) : w.heap.size ≤ gb144)); have n3_ := Aside0.mk ((by rw [hg]; exact (below_size (by repeat (first | (with_reducible first | exact HB.out | apply below_alloc | apply pw_below_drewN | apply below_drew1) | exact HB.out))) : w.heap.size ≤ gb144)); clear HB; have HB := n0_; have BK144 := n1_; have GW144 := n2_; have GE144 := n3_; clear n0_ n1_ n2_ n3_; clear hb hbox hg) | ((with_reducible refine gate_callee (f := 12) rfl ?_); refine goesL_ (some 12) rfl rfl Try.func12 (by kernel_rfl) rfl #[] rfl (by (try simp only [List.map_toArray, List.map_cons, List.map_nil]); first | done | rfl | (simp only [List.length_drop, List.length_take]; rfl)) ?_; (with_reducible refine (grapevinelaw06_anchor.calls  false _ A3.out).mono ?_); rintro e w133 ⟨rfl, hb⟩; refine ⟨_, rfl, ?_⟩; have n0_ := Aside0.mk (blk_below (g := gb144) (o := .cells #[.int .i64 a0_0, .int .i64 a0_1, .int .i64 a0_2] 23 (0, 0)) (by (with_reducible repeat (first | refine blk_drewN ?_ _ | refine blk_drew ?_ | refine blk_alloc ?_ _)); exact BK144.out) hb); have n1_ := Aside0.mk (below_step (by repeat (first | (with_reducible first | exact HB.out | apply below_alloc | apply pw_below_drewN | apply below_drew1 | refine below_set ?_ GE144.out) | exact HB.out)) hb); clear BK144; clear HB; have BK144 := n0_; have HB := n1_; clear n0_ n1_; (try clear hb); (try clear hb2); (try clear hk); (try clear hi)))
  go_ret
  exact ⟨by first | rfl | (simp [errW_none, errW_some] <;> rfl) | (simp [*, errW_none, errW_some] <;> rfl), by repeat (first | (with_reducible first | exact HB.out | apply below_alloc | apply pw_below_drewN | apply below_drew1 | refine below_set ?_ GE144.out) | exact HB.out)⟩
end Go.Proofs.Ytjlcaiijapjakaa.QEpochGrows
