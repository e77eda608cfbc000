/- The machine's side of the wire laws, packets that are the same: functions and their contracts, printed by a program of this session. -/
import Derived.Test.YtldiipomcenbkaaQa
namespace Go.Proofs.Ytldiipomcenbkaa.Qw
open Go.RowKit Go.Proofs.YtldiipomcenbkaaW.PrintWords Go.Proofs.YtldiipomcenbkaaW.PrintLast Go.Proofs.YtldiipomcenbkaaW.PrintMore
attribute [local go_sem] max2_int min2_int max_two min_two max_three min_three max_four min_four   -- for this text's walks alone
set_option linter.unusedVariables false
set_option linter.unusedSimpArgs false
section
attribute [local go_sem high] eqA48
/-! ### grapevinemade_SamePacket: function 18 -/
mutual
def grapevinemade_SamePacket.j0 : Nat → Bool → Int → Int → Int → Int → Int → Int → Int → Int → Int → Int → List (S48) → Int → Int → Int → Int → Int → Int → Int → Int → Int → Int → List (S48) → Option (Bool)
 | 0, _, _, _, _, _, _, _, _, _, _, _, _, _, _, _, _, _, _, _, _, _, _, _ => none
 | k + 1, x83, x249000, x249001, x249002, x249003, x249004, x249005, x249006, x249007, x249008, x249009, x249010, x250000, x250001, x250002, x250003, x250004, x250005, x250006, x250007, x250008, x250009, x250010 => if x83 = true then (some false) else (grapevinemade_SamePacket.l0 k x249010 (x249010.length : Int) 0 x250000 x250001 x250002 x250003 x250004 x250005 x250006 x250007 x250008 x250009 x250010)
def grapevinemade_SamePacket.l0 : Nat → List (S48) → Int → Int → Int → Int → Int → Int → Int → Int → Int → Int → Int → Int → List (S48) → Option (Bool)
 | 0, _, _, _, _, _, _, _, _, _, _, _, _, _, _ => none
 | k + 1, x85, x86, x87, x250000, x250001, x250002, x250003, x250004, x250005, x250006, x250007, x250008, x250009, x250010 => if x87 < x86 then (if 0 ≤ x87 then (if x87 < (x85.length : Int) then (if x87 < (x250010.length : Int) then (if (!(((rd_T48 x85 x87).f0) == ((rd_T48 x250010 x87).f0)) || (!(((rd_T48 x85 x87).f1) == ((rd_T48 x250010 x87).f1)))) = true then (some false) else (grapevinemade_SamePacket.l0 k x85 x86 (wrap64 (x87 + 1)) x250000 x250001 x250002 x250003 x250004 x250005 x250006 x250007 x250008 x250009 x250010)) else (none)) else (none)) else (none)) else (some true)
end
def grapevinemade_SamePacket.f (k : Nat) (a0_0 : Int) (a0_1 : Int) (a0_2 : Int) (a0_3 : Int) (a0_4 : Int) (a0_5 : Int) (a0_6 : Int) (a0_7 : Int) (a0_8 : Int) (a0_9 : Int) (l0_10 : List (S48)) (a1_0 : Int) (a1_1 : Int) (a1_2 : Int) (a1_3 : Int) (a1_4 : Int) (a1_5 : Int) (a1_6 : Int) (a1_7 : Int) (a1_8 : Int) (a1_9 : Int) (l1_10 : List (S48)) : Option (Bool) := if a0_0 = a1_0 then (if a0_1 = a1_1 then (if a0_2 = a1_2 then (if a0_3 = a1_3 then (if a0_4 = a1_4 then (if a0_5 = a1_5 then (if a0_6 = a1_6 then (if a0_7 = a1_7 then (if a0_8 = a1_8 then (if a0_9 = a1_9 then (grapevinemade_SamePacket.j0 k ((l0_10.length : Int) != (l1_10.length : Int)) a0_0 a0_1 a0_2 a0_3 a0_4 a0_5 a0_6 a0_7 a0_8 a0_9 l0_10 a1_0 a1_1 a1_2 a1_3 a1_4 a1_5 a1_6 a1_7 a1_8 a1_9 l1_10) else (grapevinemade_SamePacket.j0 k true a0_0 a0_1 a0_2 a0_3 a0_4 a0_5 a0_6 a0_7 a0_8 a0_9 l0_10 a1_0 a1_1 a1_2 a1_3 a1_4 a1_5 a1_6 a1_7 a1_8 a1_9 l1_10)) else (grapevinemade_SamePacket.j0 k true a0_0 a0_1 a0_2 a0_3 a0_4 a0_5 a0_6 a0_7 a0_8 a0_9 l0_10 a1_0 a1_1 a1_2 a1_3 a1_4 a1_5 a1_6 a1_7 a1_8 a1_9 l1_10)) else (grapevinemade_SamePacket.j0 k true a0_0 a0_1 a0_2 a0_3 a0_4 a0_5 a0_6 a0_7 a0_8 a0_9 l0_10 a1_0 a1_1 a1_2 a1_3 a1_4 a1_5 a1_6 a1_7 a1_8 a1_9 l1_10)) else (grapevinemade_SamePacket.j0 k true a0_0 a0_1 a0_2 a0_3 a0_4 a0_5 a0_6 a0_7 a0_8 a0_9 l0_10 a1_0 a1_1 a1_2 a1_3 a1_4 a1_5 a1_6 a1_7 a1_8 a1_9 l1_10)) else (grapevinemade_SamePacket.j0 k true a0_0 a0_1 a0_2 a0_3 a0_4 a0_5 a0_6 a0_7 a0_8 a0_9 l0_10 a1_0 a1_1 a1_2 a1_3 a1_4 a1_5 a1_6 a1_7 a1_8 a1_9 l1_10)) else (grapevinemade_SamePacket.j0 k true a0_0 a0_1 a0_2 a0_3 a0_4 a0_5 a0_6 a0_7 a0_8 a0_9 l0_10 a1_0 a1_1 a1_2 a1_3 a1_4 a1_5 a1_6 a1_7 a1_8 a1_9 l1_10)) else (grapevinemade_SamePacket.j0 k true a0_0 a0_1 a0_2 a0_3 a0_4 a0_5 a0_6 a0_7 a0_8 a0_9 l0_10 a1_0 a1_1 a1_2 a1_3 a1_4 a1_5 a1_6 a1_7 a1_8 a1_9 l1_10)) else (grapevinemade_SamePacket.j0 k true a0_0 a0_1 a0_2 a0_3 a0_4 a0_5 a0_6 a0_7 a0_8 a0_9 l0_10 a1_0 a1_1 a1_2 a1_3 a1_4 a1_5 a1_6 a1_7 a1_8 a1_9 l1_10)) else (grapevinemade_SamePacket.j0 k true a0_0 a0_1 a0_2 a0_3 a0_4 a0_5 a0_6 a0_7 a0_8 a0_9 l0_10 a1_0 a1_1 a1_2 a1_3 a1_4 a1_5 a1_6 a1_7 a1_8 a1_9 l1_10)) else (grapevinemade_SamePacket.j0 k true a0_0 a0_1 a0_2 a0_3 a0_4 a0_5 a0_6 a0_7 a0_8 a0_9 l0_10 a1_0 a1_1 a1_2 a1_3 a1_4 a1_5 a1_6 a1_7 a1_8 a1_9 l1_10)
theorem grapevinemade_SamePacket.mono_l : ∀ k, (∀ y0 y1 y2 y3 y4 y5 y6 y7 y8 y9 y10 y11 y12 y13 y14 y15 y16 y17 y18 y19 y20 y21 y22, LeO (grapevinemade_SamePacket.j0 k y0 y1 y2 y3 y4 y5 y6 y7 y8 y9 y10 y11 y12 y13 y14 y15 y16 y17 y18 y19 y20 y21 y22) (grapevinemade_SamePacket.j0 (k + 1) y0 y1 y2 y3 y4 y5 y6 y7 y8 y9 y10 y11 y12 y13 y14 y15 y16 y17 y18 y19 y20 y21 y22)) ∧ (∀ y0 y1 y2 y3 y4 y5 y6 y7 y8 y9 y10 y11 y12 y13, LeO (grapevinemade_SamePacket.l0 k y0 y1 y2 y3 y4 y5 y6 y7 y8 y9 y10 y11 y12 y13) (grapevinemade_SamePacket.l0 (k + 1) y0 y1 y2 y3 y4 y5 y6 y7 y8 y9 y10 y11 y12 y13))
 | 0 => ⟨fun _ _ _ _ _ _ _ _ _ _ _ _ _ _ _ _ _ _ _ _ _ _ _ r h => by simp [grapevinemade_SamePacket.j0] at h, fun _ _ _ _ _ _ _ _ _ _ _ _ _ _ r h => by simp [grapevinemade_SamePacket.l0] at h⟩
 | k + 1 => by
  obtain ⟨ih0, ih1⟩ := grapevinemade_SamePacket.mono_l k
  refine ⟨?_, ?_⟩
  ·intro y0 y1 y2 y3 y4 y5 y6 y7 y8 y9 y10 y11 y12 y13 y14 y15 y16 y17 y18 y19 y20 y21 y22
   unfold grapevinemade_SamePacket.j0
   repeat' first
   | (with_reducible exact ih0 _ _ _ _ _ _ _ _ _ _ _ _ _ _ _ _ _ _ _ _ _ _ _)
   | (with_reducible exact ih1 _ _ _ _ _ _ _ _ _ _ _ _ _ _)
   | (with_reducible exact LeO.refl _)
   | (with_reducible exact LeO.none _)
   | (with_reducible refine LeO.ite ?_ ?_)
   | (with_reducible refine LeO.bind ?_ (fun _ => ?_))
   | exact ih0 _ _ _ _ _ _ _ _ _ _ _ _ _ _ _ _ _ _ _ _ _ _ _
   | exact ih1 _ _ _ _ _ _ _ _ _ _ _ _ _ _
   | exact LeO.none _
   | refine LeO.ite ?_ ?_
   | refine LeO.bind ?_ (fun _ => ?_)
  ·intro y0 y1 y2 y3 y4 y5 y6 y7 y8 y9 y10 y11 y12 y13
   unfold grapevinemade_SamePacket.l0
   repeat' first
   | (with_reducible exact ih0 _ _ _ _ _ _ _ _ _ _ _ _ _ _ _ _ _ _ _ _ _ _ _)
   | (with_reducible exact ih1 _ _ _ _ _ _ _ _ _ _ _ _ _ _)
   | (with_reducible exact LeO.refl _)
   | (with_reducible exact LeO.none _)
   | (with_reducible refine LeO.ite ?_ ?_)
   | (with_reducible refine LeO.bind ?_ (fun _ => ?_))
   | exact ih0 _ _ _ _ _ _ _ _ _ _ _ _ _ _ _ _ _ _ _ _ _ _ _
   | exact ih1 _ _ _ _ _ _ _ _ _ _ _ _ _ _
   | exact LeO.none _
   | refine LeO.ite ?_ ?_
   | refine LeO.bind ?_ (fun _ => ?_)
theorem grapevinemade_SamePacket.mono : ∀ a0 a1 a2 a3 a4 a5 a6 a7 a8 a9 a10 a11 a12 a13 a14 a15 a16 a17 a18 a19 a20 a21 k, LeO (grapevinemade_SamePacket.f k a0 a1 a2 a3 a4 a5 a6 a7 a8 a9 a10 a11 a12 a13 a14 a15 a16 a17 a18 a19 a20 a21) (grapevinemade_SamePacket.f (k + 1) a0 a1 a2 a3 a4 a5 a6 a7 a8 a9 a10 a11 a12 a13 a14 a15 a16 a17 a18 a19 a20 a21) := by
 intro a0 a1 a2 a3 a4 a5 a6 a7 a8 a9 a10 a11 a12 a13 a14 a15 a16 a17 a18 a19 a20 a21 k
 obtain ⟨ih0, ih1⟩ := grapevinemade_SamePacket.mono_l k
 unfold grapevinemade_SamePacket.f
 repeat' first
   | (with_reducible exact ih0 _ _ _ _ _ _ _ _ _ _ _ _ _ _ _ _ _ _ _ _ _ _ _)
   | (with_reducible exact ih1 _ _ _ _ _ _ _ _ _ _ _ _ _ _)
   | (with_reducible exact LeO.refl _)
   | (with_reducible exact LeO.none _)
   | (with_reducible refine LeO.ite ?_ ?_)
   | (with_reducible refine LeO.bind ?_ (fun _ => ?_))
   | exact ih0 _ _ _ _ _ _ _ _ _ _ _ _ _ _ _ _ _ _ _ _ _ _ _
   | exact ih1 _ _ _ _ _ _ _ _ _ _ _ _ _ _
   | exact LeO.none _
   | refine LeO.ite ?_ ?_
   | refine LeO.bind ?_ (fun _ => ?_)
set_option maxHeartbeats 8000000 in
set_option maxRecDepth 100000 in
theorem grapevinemade_SamePacket.calls (k : Nat) (a0_0 : Int) (a0_1 : Int) (a0_2 : Int) (a0_3 : Int) (a0_4 : Int) (a0_5 : Int) (a0_6 : Int) (a0_7 : Int) (a0_8 : Int) (a0_9 : Int) (A0_10 : Option Addr) (c0_10 : Nat) (l0_10 : List (S48)) (a1_0 : Int) (a1_1 : Int) (a1_2 : Int) (a1_3 : Int) (a1_4 : Int) (a1_5 : Int) (a1_6 : Int) (a1_7 : Int) (a1_8 : Int) (a1_9 : Int) (A1_10 : Option Addr) (c1_10 : Nat) (l1_10 : List (S48)) (r : Bool) (w : World) (hr0_10 : Kd.C k48 w A0_10 l0_10.length l0_10) (hc0_10 : l0_10.length ≤ c0_10) (hr1_10 : Kd.C k48 w A1_10 l1_10.length l1_10) (hc1_10 : l1_10.length ≤ c1_10) (h : grapevinemade_SamePacket.f k a0_0 a0_1 a0_2 a0_3 a0_4 a0_5 a0_6 a0_7 a0_8 a0_9 l0_10 a1_0 a1_1 a1_2 a1_3 a1_4 a1_5 a1_6 a1_7 a1_8 a1_9 l1_10 = some r) :
  Calls Try.prog 18 #[.agg #[.int .i64 a0_0, .int .i64 a0_1, .int .i64 a0_2, .int .i64 a0_3, .int .i64 a0_4, .int .u64 a0_5, .int .i64 a0_6, .int .i64 a0_7, .int .i64 a0_8, .int .u64 a0_9, .slice A0_10 l0_10.length c0_10], .agg #[.int .i64 a1_0, .int .i64 a1_1, .int .i64 a1_2, .int .i64 a1_3, .int .i64 a1_4, .int .u64 a1_5, .int .i64 a1_6, .int .i64 a1_7, .int .i64 a1_8, .int .u64 a1_9, .slice A1_10 l1_10.length c1_10]] w fun e w' => e = .returned (.bool r) ∧ Below w.heap.size w w' := by
 have hu26 := Try.underlying26
 have hu48 := Try.underlying48
 have HR0_10 := Aside0.mk hr0_10
 have HC0_10 := Aside0.mk hc0_10
 clear hr0_10 hc0_10
 have HR1_10 := Aside0.mk hr1_10
 have HC1_10 := Aside0.mk hc1_10
 clear hr1_10 hc1_10
 have HB := Aside0.mk (Below.refl w.heap.size w)
 have H : (if a0_0 = a1_0 then (if a0_1 = a1_1 then (if a0_2 = a1_2 then (if a0_3 = a1_3 then (if a0_4 = a1_4 then (if a0_5 = a1_5 then (if a0_6 = a1_6 then (if a0_7 = a1_7 then (if a0_8 = a1_8 then (if a0_9 = a1_9 then (grapevinemade_SamePacket.j0 k ((l0_10.length : Int) != (l1_10.length : Int)) a0_0 a0_1 a0_2 a0_3 a0_4 a0_5 a0_6 a0_7 a0_8 a0_9 l0_10 a1_0 a1_1 a1_2 a1_3 a1_4 a1_5 a1_6 a1_7 a1_8 a1_9 l1_10) else (grapevinemade_SamePacket.j0 k true a0_0 a0_1 a0_2 a0_3 a0_4 a0_5 a0_6 a0_7 a0_8 a0_9 l0_10 a1_0 a1_1 a1_2 a1_3 a1_4 a1_5 a1_6 a1_7 a1_8 a1_9 l1_10)) else (grapevinemade_SamePacket.j0 k true a0_0 a0_1 a0_2 a0_3 a0_4 a0_5 a0_6 a0_7 a0_8 a0_9 l0_10 a1_0 a1_1 a1_2 a1_3 a1_4 a1_5 a1_6 a1_7 a1_8 a1_9 l1_10)) else (grapevinemade_SamePacket.j0 k true a0_0 a0_1 a0_2 a0_3 a0_4 a0_5 a0_6 a0_7 a0_8 a0_9 l0_10 a1_0 a1_1 a1_2 a1_3 a1_4 a1_5 a1_6 a1_7 a1_8 a1_9 l1_10)) else (grapevinemade_SamePacket.j0 k true a0_0 a0_1 a0_2 a0_3 a0_4 a0_5 a0_6 a0_7 a0_8 a0_9 l0_10 a1_0 a1_1 a1_2 a1_3 a1_4 a1_5 a1_6 a1_7 a1_8 a1_9 l1_10)) else (grapevinemade_SamePacket.j0 k true a0_0 a0_1 a0_2 a0_3 a0_4 a0_5 a0_6 a0_7 a0_8 a0_9 l0_10 a1_0 a1_1 a1_2 a1_3 a1_4 a1_5 a1_6 a1_7 a1_8 a1_9 l1_10)) else (grapevinemade_SamePacket.j0 k true a0_0 a0_1 a0_2 a0_3 a0_4 a0_5 a0_6 a0_7 a0_8 a0_9 l0_10 a1_0 a1_1 a1_2 a1_3 a1_4 a1_5 a1_6 a1_7 a1_8 a1_9 l1_10)) else (grapevinemade_SamePacket.j0 k true a0_0 a0_1 a0_2 a0_3 a0_4 a0_5 a0_6 a0_7 a0_8 a0_9 l0_10 a1_0 a1_1 a1_2 a1_3 a1_4 a1_5 a1_6 a1_7 a1_8 a1_9 l1_10)) else (grapevinemade_SamePacket.j0 k true a0_0 a0_1 a0_2 a0_3 a0_4 a0_5 a0_6 a0_7 a0_8 a0_9 l0_10 a1_0 a1_1 a1_2 a1_3 a1_4 a1_5 a1_6 a1_7 a1_8 a1_9 l1_10)) else (grapevinemade_SamePacket.j0 k true a0_0 a0_1 a0_2 a0_3 a0_4 a0_5 a0_6 a0_7 a0_8 a0_9 l0_10 a1_0 a1_1 a1_2 a1_3 a1_4 a1_5 a1_6 a1_7 a1_8 a1_9 l1_10)) else (grapevinemade_SamePacket.j0 k true a0_0 a0_1 a0_2 a0_3 a0_4 a0_5 a0_6 a0_7 a0_8 a0_9 l0_10 a1_0 a1_1 a1_2 a1_3 a1_4 a1_5 a1_6 a1_7 a1_8 a1_9 l1_10)) = some r := h
 clear h
 have HC3 := Aside0.mk H
 clear H
 go_enter Try.func18, Try.ntmps18
 go_upto_region 1 with (first | ((with_reducible refine gate_dst (N := 2) rfl ?_); (try (refine gate_guard (by rfl) ?_; dsimp only)); refine box_event ?hg (N := 2) ?hd (cs := #[.int .i64 a0_0, .int .i64 a0_1, .int .i64 a0_2, .int .i64 a0_3, .int .i64 a0_4, .int .u64 a0_5, .int .i64 a0_6, .int .i64 a0_7, .int .i64 a0_8, .int .u64 a0_9, .slice A0_10 l0_10.length c0_10]) (t := 26) ?hr ?_; (case hd => rfl); (case hg => rfl); (case hr => first | (go_simp; done) | (go_simp; rfl)); intro gb248 hg w4 hbox hb; have n0_ := Aside0.mk (below_step (by repeat (first | (with_reducible first | exact HB.out | apply below_alloc | apply pw_below_drewN | apply below_drew1) | exact HB.out)) hb); have n1_ := Aside0.mk (hbox); have n2_ := Aside0.mk ((by rw [hg]; exact (below_size (by repeat (first | (with_reducible first | exact HB.out | apply below_alloc | apply pw_below_drewN | apply below_drew1) | exact HB.out))) : w.heap.size ≤ gb248)); have n3_ := Aside0.mk ((by rw [hg]; exact (below_size (by repeat (first | (with_reducible first | exact HB.out | apply below_alloc | apply pw_below_drewN | apply below_drew1) | exact HB.out))) : w.heap.size ≤ gb248)); clear HB; have HB := n0_; have BK248 := n1_; have GW248 := n2_; have GE248 := n3_; clear n0_ n1_ n2_ n3_; clear hb hbox hg) | ((with_reducible refine gate_dst (N := 3) rfl ?_); (try (refine gate_guard (by rfl) ?_; dsimp only)); refine box_event ?hg (N := 3) ?hd (cs := #[.int .i64 a1_0, .int .i64 a1_1, .int .i64 a1_2, .int .i64 a1_3, .int .i64 a1_4, .int .u64 a1_5, .int .i64 a1_6, .int .i64 a1_7, .int .i64 a1_8, .int .u64 a1_9, .slice A1_10 l1_10.length c1_10]) (t := 26) ?hr ?_; (case hd => rfl); (case hg => rfl); (case hr => first | (go_simp; done) | (go_simp; rfl)); intro gb249 hg w5 hbox hb; have n0_ := Aside0.mk (blk_below (g := gb248) (o := .cells #[.int .i64 a0_0, .int .i64 a0_1, .int .i64 a0_2, .int .i64 a0_3, .int .i64 a0_4, .int .u64 a0_5, .int .i64 a0_6, .int .i64 a0_7, .int .i64 a0_8, .int .u64 a0_9, .slice A0_10 l0_10.length c0_10] 26 (0, 0)) (by (with_reducible repeat (first | refine blk_drewN ?_ _ | refine blk_drew ?_ | refine blk_alloc ?_ _)); exact BK248.out) hb); have n1_ := Aside0.mk (below_step (by repeat (first | (with_reducible first | exact HB.out | apply below_alloc | apply pw_below_drewN | apply below_drew1 | refine below_set ?_ GE248.out) | exact HB.out)) hb); have n2_ := Aside0.mk (hbox); have n3_ := Aside0.mk ((by rw [hg]; exact (below_size (by repeat (first | (with_reducible first | exact HB.out | apply below_alloc | apply pw_below_drewN | apply below_drew1 | refine below_set ?_ GE248.out) | exact HB.out))) : w.heap.size ≤ gb249)); have n4_ := Aside0.mk ((by rw [hg]; exact (below_size (by repeat (first | (with_reducible first | exact HB.out | apply below_alloc | apply pw_below_drewN | apply below_drew1 | refine below_set ?_ GE248.out) | exact HB.out))) : w.heap.size ≤ gb249)); have n5_ := Aside0.mk ((by rw [hg]; exact Nat.ne_of_lt (blk_lt (g := gb248) (o := .cells #[.int .i64 a0_0, .int .i64 a0_1, .int .i64 a0_2, .int .i64 a0_3, .int .i64 a0_4, .int .u64 a0_5, .int .i64 a0_6, .int .i64 a0_7, .int .i64 a0_8, .int .u64 a0_9, .slice A0_10 l0_10.length c0_10] 26 (0, 0)) (by (with_reducible repeat (first | refine blk_drewN ?_ _ | refine blk_drew ?_ | refine blk_alloc ?_ _)); exact BK248.out)) : gb248 ≠ gb249)); have n6_ := Aside0.mk ((by rw [hg]; exact Nat.ne_of_gt (blk_lt (g := gb248) (o := .cells #[.int .i64 a0_0, .int .i64 a0_1, .int .i64 a0_2, .int .i64 a0_3, .int .i64 a0_4, .int .u64 a0_5, .int .i64 a0_6, .int .i64 a0_7, .int .i64 a0_8, .int .u64 a0_9, .slice A0_10 l0_10.length c0_10] 26 (0, 0)) (by (with_reducible repeat (first | refine blk_drewN ?_ _ | refine blk_drew ?_ | refine blk_alloc ?_ _)); exact BK248.out)) : gb249 ≠ gb248)); clear BK248; clear HB; have BK248 := n0_; have HB := n1_; have BK249 := n2_; have GW249 := n3_; have GE249 := n4_; have NB248_249 := n5_; have NB249_248 := n6_; clear n0_ n1_ n2_ n3_ n4_ n5_ n6_; clear hb hbox hg))
 repeat (go_quiet (first | ((with_reducible refine gate_dst (N := 2) rfl ?_); (try (refine gate_guard (by rfl) ?_; dsimp only)); refine box_event ?hg (N := 2) ?hd (cs := #[.int .i64 a0_0, .int .i64 a0_1, .int .i64 a0_2, .int .i64 a0_3, .int .i64 a0_4, .int .u64 a0_5, .int .i64 a0_6, .int .i64 a0_7, .int .i64 a0_8, .int .u64 a0_9, .slice A0_10 l0_10.length c0_10]) (t := 26) ?hr ?_; (case hd => rfl); (case hg => rfl); (case hr => first | (go_simp; done) | (go_simp; rfl)); intro gb248 hg w4 hbox hb; have n0_ := Aside0.mk (below_step (by repeat (first | (with_reducible first | exact HB.out | apply below_alloc | apply pw_below_drewN | apply below_drew1) | exact HB.out)) hb); have n1_ := Aside0.mk (hbox); have n2_ := Aside0.mk ((by rw [hg]; exact (below_size (by repeat (first | (with_reducible first | exact HB.out | apply below_alloc | apply pw_below_drewN | apply below_drew1) | exact HB.out))) : w.heap.size ≤ gb248)); have n3_ := Aside0.mk ((by rw [hg]; exact (below_size (by repeat (first | (with_reducible first | exact HB.out | apply below_alloc | apply pw_below_drewN | apply below_drew1) | exact HB.out))) : w.heap.size ≤ gb248)); clear HB; have HB := n0_; have BK248 := n1_; have GW248 := n2_; have GE248 := n3_; clear n0_ n1_ n2_ n3_; clear hb hbox hg) | ((with_reducible refine gate_dst (N := 3) rfl ?_); (try (refine gate_guard (by rfl) ?_; dsimp only)); refine box_event ?hg (N := 3) ?hd (cs := #[.int .i64 a1_0, .int .i64 a1_1, .int .i64 a1_2, .int .i64 a1_3, .int .i64 a1_4, .int .u64 a1_5, .int .i64 a1_6, .int .i64 a1_7, .int .i64 a1_8, .int .u64 a1_9, .slice A1_10 l1_10.length c1_10]) (t := 26) ?hr ?_; (case hd => rfl); (case hg => rfl); (case hr => first | (go_simp; done) | (go_simp; rfl)); intro gb249 hg w5 hbox hb; have n0_ := Aside0.mk (blk_below (g := gb248) (o := .cells #[.int .i64 a0_0, .int .i64 a0_1, .int .i64 a0_2, .int .i64 a0_3, .int .i64 a0_4, .int .u64 a0_5, .int .i64 a0_6, .int .i64 a0_7, .int .i64 a0_8, .int .u64 a0_9, .slice A0_10 l0_10.length c0_10] 26 (0, 0)) (by (with_reducible repeat (first | refine blk_drewN ?_ _ | refine blk_drew ?_ | refine blk_alloc ?_ _)); exact BK248.out) hb); have n1_ := Aside0.mk (below_step (by repeat (first | (with_reducible first | exact HB.out | apply below_alloc | apply pw_below_drewN | apply below_drew1 | refine below_set ?_ GE248.out) | exact HB.out)) hb); have n2_ := Aside0.mk (hbox); have n3_ := Aside0.mk ((by rw [hg]; exact (below_size (by repeat (first | (with_reducible first | exact HB.out | apply below_alloc | apply pw_below_drewN | apply below_drew1 | refine below_set ?_ GE248.out) | exact HB.out))) : w.heap.size ≤ gb249)); have n4_ := Aside0.mk ((by rw [hg]; exact (below_size (by repeat (first | (with_reducible first | exact HB.out | apply below_alloc | apply pw_below_drewN | apply below_drew1 | refine below_set ?_ GE248.out) | exact HB.out))) : w.heap.size ≤ gb249)); have n5_ := Aside0.mk ((by rw [hg]; exact Nat.ne_of_lt (blk_lt (g := gb248) (o := .cells #[.int .i64 a0_0, .int .i64 a0_1, .int .i64 a0_2, .int .i64 a0_3, .int .i64 a0_4, .int .u64 a0_5, .int .i64 a0_6, .int .i64 a0_7, .int .i64 a0_8, .int .u64 a0_9, .slice A0_10 l0_10.length c0_10] 26 (0, 0)) (by (with_reducible repeat (first | refine blk_drewN ?_ _ | refine blk_drew ?_ | refine blk_alloc ?_ _)); exact BK248.out)) : gb248 ≠ gb249)); have n6_ := Aside0.mk ((by rw [hg]; exact Nat.ne_of_gt (blk_lt (g := gb248) (o := .cells #[.int .i64 a0_0, .int .i64 a0_1, .int .i64 a0_2, .int .i64 a0_3, .int .i64 a0_4, .int .u64 a0_5, .int .i64 a0_6, .int .i64 a0_7, .int .i64 a0_8, .int .u64 a0_9, .slice A0_10 l0_10.length c0_10] 26 (0, 0)) (by (with_reducible repeat (first | refine blk_drewN ?_ _ | refine blk_drew ?_ | refine blk_alloc ?_ _)); exact BK248.out)) : gb249 ≠ gb248)); clear BK248; clear HB; have BK248 := n0_; have HB := n1_; have BK249 := n2_; have GW249 := n3_; have GE249 := n4_; have NB248_249 := n5_; have NB249_248 := n6_; clear n0_ n1_ n2_ n3_ n4_ n5_ n6_; clear hb hbox hg)); go_upto_region 1 with (first | ((with_reducible refine gate_dst (N := 2) rfl ?_); (try (refine gate_guard (by rfl) ?_; dsimp only)); refine box_event ?hg (N := 2) ?hd (cs := #[.int .i64 a0_0, .int .i64 a0_1, .int .i64 a0_2, .int .i64 a0_3, .int .i64 a0_4, .int .u64 a0_5, .int .i64 a0_6, .int .i64 a0_7, .int .i64 a0_8, .int .u64 a0_9, .slice A0_10 l0_10.length c0_10]) (t := 26) ?hr ?_; (case hd => rfl); (case hg => rfl); (case hr => first | (go_simp; done) | (go_simp; rfl)); intro gb248 hg w4 hbox hb; have n0_ := Aside0.mk (below_step (by repeat (first | (with_reducible first | exact HB.out | apply below_alloc | apply pw_below_drewN | apply below_drew1) | exact HB.out)) hb); have n1_ := Aside0.mk (hbox); have n2_ := Aside0.mk ((by rw [hg]; exact (below_size (by repeat (first | (with_reducible first | exact HB.out | apply below_alloc | apply pw_below_drewN | apply below_drew1) | exact HB.out))) : w.heap.size ≤ gb248)); have n3_ := Aside0.mk ((by rw [hg]; exact (below_size (by repeat (first | (with_reducible first | exact HB.out | apply below_alloc | apply pw_below_drewN | apply below_drew1) | exact HB.out))) : w.heap.size ≤ gb248)); clear HB; have HB := n0_; have BK248 := n1_; have GW248 := n2_; have GE248 := n3_; clear n0_ n1_ n2_ n3_; clear hb hbox hg) | ((with_reducible refine gate_dst (N := 3) rfl ?_); (try (refine gate_guard (by rfl) ?_; dsimp only)); refine box_event ?hg (N := 3) ?hd (cs := #[.int .i64 a1_0, .int .i64 a1_1, .int .i64 a1_2, .int .i64 a1_3, .int .i64 a1_4, .int .u64 a1_5, .int .i64 a1_6, .int .i64 a1_7, .int .i64 a1_8, .int .u64 a1_9, .slice A1_10 l1_10.length c1_10]) (t := 26) ?hr ?_; (case hd => rfl); (case hg => rfl); (case hr => first | (go_simp; done) | (go_simp; rfl)); intro gb249 hg w5 hbox hb; have n0_ := Aside0.mk (blk_below (g := gb248) (o := .cells #[.int .i64 a0_0, .int .i64 a0_1, .int .i64 a0_2, .int .i64 a0_3, .int .i64 a0_4, .int .u64 a0_5, .int .i64 a0_6, .int .i64 a0_7, .int .i64 a0_8, .int .u64 a0_9, .slice A0_10 l0_10.length c0_10] 26 (0, 0)) (by (with_reducible repeat (first | refine blk_drewN ?_ _ | refine blk_drew ?_ | refine blk_alloc ?_ _)); exact BK248.out) hb); have n1_ := Aside0.mk (below_step (by repeat (first | (with_reducible first | exact HB.out | apply below_alloc | apply pw_below_drewN | apply below_drew1 | refine below_set ?_ GE248.out) | exact HB.out)) hb); have n2_ := Aside0.mk (hbox); have n3_ := Aside0.mk ((by rw [hg]; exact (below_size (by repeat (first | (with_reducible first | exact HB.out | apply below_alloc | apply pw_below_drewN | apply below_drew1 | refine below_set ?_ GE248.out) | exact HB.out))) : w.heap.size ≤ gb249)); have n4_ := Aside0.mk ((by rw [hg]; exact (below_size (by repeat (first | (with_reducible first | exact HB.out | apply below_alloc | apply pw_below_drewN | apply below_drew1 | refine below_set ?_ GE248.out) | exact HB.out))) : w.heap.size ≤ gb249)); have n5_ := Aside0.mk ((by rw [hg]; exact Nat.ne_of_lt (blk_lt (g := gb248) (o := .cells #[.int .i64 a0_0, .int .i64 a0_1, .int .i64 a0_2, .int .i64 a0_3, .int .i64 a0_4, .int .u64 a0_5, .int .i64 a0_6, .int .i64 a0_7, .int .i64 a0_8, .int .u64 a0_9, .slice A0_10 l0_10.length c0_10] 26 (0, 0)) (by (with_reducible repeat (first | refine blk_drewN ?_ _ | refine blk_drew ?_ | refine blk_alloc ?_ _)); exact BK248.out)) : gb248 ≠ gb249)); have n6_ := Aside0.mk ((by rw [hg]; exact Nat.ne_of_gt (blk_lt (g := gb248) (o := .cells #[.int .i64 a0_0, .int .i64 a0_1, .int .i64 a0_2, .int .i64 a0_3, .int .i64 a0_4, .int .u64 a0_5, .int .i64 a0_6, .int .i64 a0_7, .int .i64 a0_8, .int .u64 a0_9, .slice A0_10 l0_10.length c0_10] 26 (0, 0)) (by (with_reducible repeat (first | refine blk_drewN ?_ _ | refine blk_drew ?_ | refine blk_alloc ?_ _)); exact BK248.out)) : gb249 ≠ gb248)); clear BK248; clear HB; have BK248 := n0_; have HB := n1_; have BK249 := n2_; have GW249 := n3_; have GE249 := n4_; have NB248_249 := n5_; have NB249_248 := n6_; clear n0_ n1_ n2_ n3_ n4_ n5_ n6_; clear hb hbox hg)))
 (try simp only [Act.put, List.setIfInBounds_toArray, List.set_cons_zero, List.set_cons_succ])
 go_cut [83] (fun v83 wc => ∃ (kq : Nat) (x83_2 : Bool), v83 = .bool x83_2 ∧ Aside0 (grapevinemade_SamePacket.j0 kq x83_2 a0_0 a0_1 a0_2 a0_3 a0_4 a0_5 a0_6 a0_7 a0_8 a0_9 l0_10 a1_0 a1_1 a1_2 a1_3 a1_4 a1_5 a1_6 a1_7 a1_8 a1_9 l1_10 = some r) ∧ Aside0 (kq ≤ k) ∧ Aside0 (wc.heap[gb248]? = some (.cells #[.int .i64 a0_0, .int .i64 a0_1, .int .i64 a0_2, .int .i64 a0_3, .int .i64 a0_4, .int .u64 a0_5, .int .i64 a0_6, .int .i64 a0_7, .int .i64 a0_8, .int .u64 a0_9, (.slice A0_10 l0_10.length c0_10)] 26 (0, 0))) ∧ Aside0 (wc.heap[gb249]? = some (.cells #[.int .i64 a1_0, .int .i64 a1_1, .int .i64 a1_2, .int .i64 a1_3, .int .i64 a1_4, .int .u64 a1_5, .int .i64 a1_6, .int .i64 a1_7, .int .i64 a1_8, .int .u64 a1_9, (.slice A1_10 l1_10.length c1_10)] 26 (0, 0))) ∧ Aside0 (Below w.heap.size w wc))
 case first =>
  have H := HC3.out
  clear HC3
  by_cases c6 : a0_0 = a1_0
  rotate_left
  ·rw [if_neg c6] at H
   have c6b0 : (a0_0 == a1_0) = false := beq_eq_false_iff_ne.mpr c6
   have c6b1 : (a0_0 != a1_0) = true := bne_iff_ne.mpr c6
   (first | rw [c6b0] | (simp only [i64_w, i32_w]; rw [c6b0]) | skip)
   have H' := Aside0.mk H
   clear H
   have hnb46 := NB248_249.out
   have hnc46 := NB249_248.out
   have hcz47_0 : w5.cell? ⟨gb248, 0, none⟩ = some (.int .i64 a0_0) := (blk_cell BK248.out 0).trans rfl
   have hcz47_1 : w5.cell? ⟨gb248, 1, none⟩ = some (.int .i64 a0_1) := (blk_cell BK248.out 1).trans rfl
   have hcz47_2 : w5.cell? ⟨gb248, 2, none⟩ = some (.int .i64 a0_2) := (blk_cell BK248.out 2).trans rfl
   have hcz47_3 : w5.cell? ⟨gb248, 3, none⟩ = some (.int .i64 a0_3) := (blk_cell BK248.out 3).trans rfl
   have hcz47_4 : w5.cell? ⟨gb248, 4, none⟩ = some (.int .i64 a0_4) := (blk_cell BK248.out 4).trans rfl
   have hcz47_5 : w5.cell? ⟨gb248, 5, none⟩ = some (.int .u64 a0_5) := (blk_cell BK248.out 5).trans rfl
   have hcz47_6 : w5.cell? ⟨gb248, 6, none⟩ = some (.int .i64 a0_6) := (blk_cell BK248.out 6).trans rfl
   have hcz47_7 : w5.cell? ⟨gb248, 7, none⟩ = some (.int .i64 a0_7) := (blk_cell BK248.out 7).trans rfl
   have hcz47_8 : w5.cell? ⟨gb248, 8, none⟩ = some (.int .i64 a0_8) := (blk_cell BK248.out 8).trans rfl
   have hcz47_9 : w5.cell? ⟨gb248, 9, none⟩ = some (.int .u64 a0_9) := (blk_cell BK248.out 9).trans rfl
   have hcz47_10 : w5.cell? ⟨gb248, 10, none⟩ = some (.slice A0_10 l0_10.length c0_10) := (blk_cell BK248.out 10).trans rfl
   have hfz47_0 := blk_frozen BK248.out 0
   have hfz47_1 := blk_frozen BK248.out 1
   have hfz47_2 := blk_frozen BK248.out 2
   have hfz47_3 := blk_frozen BK248.out 3
   have hfz47_4 := blk_frozen BK248.out 4
   have hfz47_5 := blk_frozen BK248.out 5
   have hfz47_6 := blk_frozen BK248.out 6
   have hfz47_7 := blk_frozen BK248.out 7
   have hfz47_8 := blk_frozen BK248.out 8
   have hfz47_9 := blk_frozen BK248.out 9
   have hfz47_10 := blk_frozen BK248.out 10
   have hcz48_0 : w5.cell? ⟨gb249, 0, none⟩ = some (.int .i64 a1_0) := (blk_cell BK249.out 0).trans rfl
   have hcz48_1 : w5.cell? ⟨gb249, 1, none⟩ = some (.int .i64 a1_1) := (blk_cell BK249.out 1).trans rfl
   have hcz48_2 : w5.cell? ⟨gb249, 2, none⟩ = some (.int .i64 a1_2) := (blk_cell BK249.out 2).trans rfl
   have hcz48_3 : w5.cell? ⟨gb249, 3, none⟩ = some (.int .i64 a1_3) := (blk_cell BK249.out 3).trans rfl
   have hcz48_4 : w5.cell? ⟨gb249, 4, none⟩ = some (.int .i64 a1_4) := (blk_cell BK249.out 4).trans rfl
   have hcz48_5 : w5.cell? ⟨gb249, 5, none⟩ = some (.int .u64 a1_5) := (blk_cell BK249.out 5).trans rfl
   have hcz48_6 : w5.cell? ⟨gb249, 6, none⟩ = some (.int .i64 a1_6) := (blk_cell BK249.out 6).trans rfl
   have hcz48_7 : w5.cell? ⟨gb249, 7, none⟩ = some (.int .i64 a1_7) := (blk_cell BK249.out 7).trans rfl
   have hcz48_8 : w5.cell? ⟨gb249, 8, none⟩ = some (.int .i64 a1_8) := (blk_cell BK249.out 8).trans rfl
   have hcz48_9 : w5.cell? ⟨gb249, 9, none⟩ = some (.int .u64 a1_9) := (blk_cell BK249.out 9).trans rfl
   have hcz48_10 : w5.cell? ⟨gb249, 10, none⟩ = some (.slice A1_10 l1_10.length c1_10) := (blk_cell BK249.out 10).trans rfl
   have hfz48_0 := blk_frozen BK249.out 0
   have hfz48_1 := blk_frozen BK249.out 1
   have hfz48_2 := blk_frozen BK249.out 2
   have hfz48_3 := blk_frozen BK249.out 3
   have hfz48_4 := blk_frozen BK249.out 4
   have hfz48_5 := blk_frozen BK249.out 5
   have hfz48_6 := blk_frozen BK249.out 6
   have hfz48_7 := blk_frozen BK249.out 7
   have hfz48_8 := blk_frozen BK249.out 8
   have hfz48_9 := blk_frozen BK249.out 9
   have hfz48_10 := blk_frozen BK249.out 10
   go_wp2
   repeat (go_quiet (fail); try go_wp2)
   go_meet
   case rel => exact ⟨_, (true), (by first | rfl | (simp; done) | (simp [*]; done)), H', ⟨by first | omega | exact Nat.le_refl _⟩, ⟨by (with_reducible repeat (first | refine blk_drewN ?_ _ | refine blk_drew ?_ | refine blk_alloc ?_ _)); exact BK248.out⟩, ⟨by (with_reducible repeat (first | refine blk_drewN ?_ _ | refine blk_drew ?_ | refine blk_alloc ?_ _)); exact BK249.out⟩, ⟨by repeat (first | (with_reducible first | exact HB.out | apply below_alloc | apply pw_below_drewN | apply below_drew1 | refine below_set ?_ GE248.out | refine below_set ?_ GE249.out) | exact HB.out)⟩⟩
  rw [if_pos c6] at H
  have c6b0 : (a0_0 == a1_0) = true := beq_iff_eq.mpr c6
  have c6b1 : (a0_0 != a1_0) = false := bne_eq_false_iff_eq.mpr c6
  clear c6
  (first | rw [c6b0] | (simp only [i64_w, i32_w]; rw [c6b0]) | skip)
  by_cases c7 : a0_1 = a1_1
  rotate_left
  ·rw [if_neg c7] at H
   have c7b0 : (a0_1 == a1_1) = false := beq_eq_false_iff_ne.mpr c7
   have c7b1 : (a0_1 != a1_1) = true := bne_iff_ne.mpr c7
   have H' := Aside0.mk H
   clear H
   have hnb43 := NB248_249.out
   have hnc43 := NB249_248.out
   have hcz44_0 : w5.cell? ⟨gb248, 0, none⟩ = some (.int .i64 a0_0) := (blk_cell BK248.out 0).trans rfl
   have hcz44_1 : w5.cell? ⟨gb248, 1, none⟩ = some (.int .i64 a0_1) := (blk_cell BK248.out 1).trans rfl
   have hcz44_2 : w5.cell? ⟨gb248, 2, none⟩ = some (.int .i64 a0_2) := (blk_cell BK248.out 2).trans rfl
   have hcz44_3 : w5.cell? ⟨gb248, 3, none⟩ = some (.int .i64 a0_3) := (blk_cell BK248.out 3).trans rfl
   have hcz44_4 : w5.cell? ⟨gb248, 4, none⟩ = some (.int .i64 a0_4) := (blk_cell BK248.out 4).trans rfl
   have hcz44_5 : w5.cell? ⟨gb248, 5, none⟩ = some (.int .u64 a0_5) := (blk_cell BK248.out 5).trans rfl
   have hcz44_6 : w5.cell? ⟨gb248, 6, none⟩ = some (.int .i64 a0_6) := (blk_cell BK248.out 6).trans rfl
   have hcz44_7 : w5.cell? ⟨gb248, 7, none⟩ = some (.int .i64 a0_7) := (blk_cell BK248.out 7).trans rfl
   have hcz44_8 : w5.cell? ⟨gb248, 8, none⟩ = some (.int .i64 a0_8) := (blk_cell BK248.out 8).trans rfl
   have hcz44_9 : w5.cell? ⟨gb248, 9, none⟩ = some (.int .u64 a0_9) := (blk_cell BK248.out 9).trans rfl
   have hcz44_10 : w5.cell? ⟨gb248, 10, none⟩ = some (.slice A0_10 l0_10.length c0_10) := (blk_cell BK248.out 10).trans rfl
   have hfz44_0 := blk_frozen BK248.out 0
   have hfz44_1 := blk_frozen BK248.out 1
   have hfz44_2 := blk_frozen BK248.out 2
   have hfz44_3 := blk_frozen BK248.out 3
   have hfz44_4 := blk_frozen BK248.out 4
   have hfz44_5 := blk_frozen BK248.out 5
   have hfz44_6 := blk_frozen BK248.out 6
   have hfz44_7 := blk_frozen BK248.out 7
   have hfz44_8 := blk_frozen BK248.out 8
   have hfz44_9 := blk_frozen BK248.out 9
   have hfz44_10 := blk_frozen BK248.out 10
   have hcz45_0 : w5.cell? ⟨gb249, 0, none⟩ = some (.int .i64 a1_0) := (blk_cell BK249.out 0).trans rfl
   have hcz45_1 : w5.cell? ⟨gb249, 1, none⟩ = some (.int .i64 a1_1) := (blk_cell BK249.out 1).trans rfl
   have hcz45_2 : w5.cell? ⟨gb249, 2, none⟩ = some (.int .i64 a1_2) := (blk_cell BK249.out 2).trans rfl
   have hcz45_3 : w5.cell? ⟨gb249, 3, none⟩ = some (.int .i64 a1_3) := (blk_cell BK249.out 3).trans rfl
   have hcz45_4 : w5.cell? ⟨gb249, 4, none⟩ = some (.int .i64 a1_4) := (blk_cell BK249.out 4).trans rfl
   have hcz45_5 : w5.cell? ⟨gb249, 5, none⟩ = some (.int .u64 a1_5) := (blk_cell BK249.out 5).trans rfl
   have hcz45_6 : w5.cell? ⟨gb249, 6, none⟩ = some (.int .i64 a1_6) := (blk_cell BK249.out 6).trans rfl
   have hcz45_7 : w5.cell? ⟨gb249, 7, none⟩ = some (.int .i64 a1_7) := (blk_cell BK249.out 7).trans rfl
   have hcz45_8 : w5.cell? ⟨gb249, 8, none⟩ = some (.int .i64 a1_8) := (blk_cell BK249.out 8).trans rfl
   have hcz45_9 : w5.cell? ⟨gb249, 9, none⟩ = some (.int .u64 a1_9) := (blk_cell BK249.out 9).trans rfl
   have hcz45_10 : w5.cell? ⟨gb249, 10, none⟩ = some (.slice A1_10 l1_10.length c1_10) := (blk_cell BK249.out 10).trans rfl
   have hfz45_0 := blk_frozen BK249.out 0
   have hfz45_1 := blk_frozen BK249.out 1
   have hfz45_2 := blk_frozen BK249.out 2
   have hfz45_3 := blk_frozen BK249.out 3
   have hfz45_4 := blk_frozen BK249.out 4
   have hfz45_5 := blk_frozen BK249.out 5
   have hfz45_6 := blk_frozen BK249.out 6
   have hfz45_7 := blk_frozen BK249.out 7
   have hfz45_8 := blk_frozen BK249.out 8
   have hfz45_9 := blk_frozen BK249.out 9
   have hfz45_10 := blk_frozen BK249.out 10
   go_wp2
   repeat (go_quiet (fail); try go_wp2)
   go_meet
   case rel => exact ⟨_, (true), (by first | rfl | (simp; done) | (simp [*]; done)), H', ⟨by first | omega | exact Nat.le_refl _⟩, ⟨by (with_reducible repeat (first | refine blk_drewN ?_ _ | refine blk_drew ?_ | refine blk_alloc ?_ _)); exact BK248.out⟩, ⟨by (with_reducible repeat (first | refine blk_drewN ?_ _ | refine blk_drew ?_ | refine blk_alloc ?_ _)); exact BK249.out⟩, ⟨by repeat (first | (with_reducible first | exact HB.out | apply below_alloc | apply pw_below_drewN | apply below_drew1 | refine below_set ?_ GE248.out | refine below_set ?_ GE249.out) | exact HB.out)⟩⟩
  rw [if_pos c7] at H
  have c7b0 : (a0_1 == a1_1) = true := beq_iff_eq.mpr c7
  have c7b1 : (a0_1 != a1_1) = false := bne_eq_false_iff_eq.mpr c7
  clear c7
  by_cases c8 : a0_2 = a1_2
  rotate_left
  ·rw [if_neg c8] at H
   have c8b0 : (a0_2 == a1_2) = false := beq_eq_false_iff_ne.mpr c8
   have c8b1 : (a0_2 != a1_2) = true := bne_iff_ne.mpr c8
   have H' := Aside0.mk H
   clear H
   have hnb40 := NB248_249.out
   have hnc40 := NB249_248.out
   have hcz41_0 : w5.cell? ⟨gb248, 0, none⟩ = some (.int .i64 a0_0) := (blk_cell BK248.out 0).trans rfl
   have hcz41_1 : w5.cell? ⟨gb248, 1, none⟩ = some (.int .i64 a0_1) := (blk_cell BK248.out 1).trans rfl
   have hcz41_2 : w5.cell? ⟨gb248, 2, none⟩ = some (.int .i64 a0_2) := (blk_cell BK248.out 2).trans rfl
   have hcz41_3 : w5.cell? ⟨gb248, 3, none⟩ = some (.int .i64 a0_3) := (blk_cell BK248.out 3).trans rfl
   have hcz41_4 : w5.cell? ⟨gb248, 4, none⟩ = some (.int .i64 a0_4) := (blk_cell BK248.out 4).trans rfl
   have hcz41_5 : w5.cell? ⟨gb248, 5, none⟩ = some (.int .u64 a0_5) := (blk_cell BK248.out 5).trans rfl
   have hcz41_6 : w5.cell? ⟨gb248, 6, none⟩ = some (.int .i64 a0_6) := (blk_cell BK248.out 6).trans rfl
   have hcz41_7 : w5.cell? ⟨gb248, 7, none⟩ = some (.int .i64 a0_7) := (blk_cell BK248.out 7).trans rfl
   have hcz41_8 : w5.cell? ⟨gb248, 8, none⟩ = some (.int .i64 a0_8) := (blk_cell BK248.out 8).trans rfl
   have hcz41_9 : w5.cell? ⟨gb248, 9, none⟩ = some (.int .u64 a0_9) := (blk_cell BK248.out 9).trans rfl
   have hcz41_10 : w5.cell? ⟨gb248, 10, none⟩ = some (.slice A0_10 l0_10.length c0_10) := (blk_cell BK248.out 10).trans rfl
   have hfz41_0 := blk_frozen BK248.out 0
   have hfz41_1 := blk_frozen BK248.out 1
   have hfz41_2 := blk_frozen BK248.out 2
   have hfz41_3 := blk_frozen BK248.out 3
   have hfz41_4 := blk_frozen BK248.out 4
   have hfz41_5 := blk_frozen BK248.out 5
   have hfz41_6 := blk_frozen BK248.out 6
   have hfz41_7 := blk_frozen BK248.out 7
   have hfz41_8 := blk_frozen BK248.out 8
   have hfz41_9 := blk_frozen BK248.out 9
   have hfz41_10 := blk_frozen BK248.out 10
   have hcz42_0 : w5.cell? ⟨gb249, 0, none⟩ = some (.int .i64 a1_0) := (blk_cell BK249.out 0).trans rfl
   have hcz42_1 : w5.cell? ⟨gb249, 1, none⟩ = some (.int .i64 a1_1) := (blk_cell BK249.out 1).trans rfl
   have hcz42_2 : w5.cell? ⟨gb249, 2, none⟩ = some (.int .i64 a1_2) := (blk_cell BK249.out 2).trans rfl
   have hcz42_3 : w5.cell? ⟨gb249, 3, none⟩ = some (.int .i64 a1_3) := (blk_cell BK249.out 3).trans rfl
   have hcz42_4 : w5.cell? ⟨gb249, 4, none⟩ = some (.int .i64 a1_4) := (blk_cell BK249.out 4).trans rfl
   have hcz42_5 : w5.cell? ⟨gb249, 5, none⟩ = some (.int .u64 a1_5) := (blk_cell BK249.out 5).trans rfl
   have hcz42_6 : w5.cell? ⟨gb249, 6, none⟩ = some (.int .i64 a1_6) := (blk_cell BK249.out 6).trans rfl
   have hcz42_7 : w5.cell? ⟨gb249, 7, none⟩ = some (.int .i64 a1_7) := (blk_cell BK249.out 7).trans rfl
   have hcz42_8 : w5.cell? ⟨gb249, 8, none⟩ = some (.int .i64 a1_8) := (blk_cell BK249.out 8).trans rfl
   have hcz42_9 : w5.cell? ⟨gb249, 9, none⟩ = some (.int .u64 a1_9) := (blk_cell BK249.out 9).trans rfl
   have hcz42_10 : w5.cell? ⟨gb249, 10, none⟩ = some (.slice A1_10 l1_10.length c1_10) := (blk_cell BK249.out 10).trans rfl
   have hfz42_0 := blk_frozen BK249.out 0
   have hfz42_1 := blk_frozen BK249.out 1
   have hfz42_2 := blk_frozen BK249.out 2
   have hfz42_3 := blk_frozen BK249.out 3
   have hfz42_4 := blk_frozen BK249.out 4
   have hfz42_5 := blk_frozen BK249.out 5
   have hfz42_6 := blk_frozen BK249.out 6
   have hfz42_7 := blk_frozen BK249.out 7
   have hfz42_8 := blk_frozen BK249.out 8
   have hfz42_9 := blk_frozen BK249.out 9
   have hfz42_10 := blk_frozen BK249.out 10
   go_wp2
   repeat (go_quiet (fail); try go_wp2)
   go_meet
   case rel => exact ⟨_, (true), (by first | rfl | (simp; done) | (simp [*]; done)), H', ⟨by first | omega | exact Nat.le_refl _⟩, ⟨by (with_reducible repeat (first | refine blk_drewN ?_ _ | refine blk_drew ?_ | refine blk_alloc ?_ _)); exact BK248.out⟩, ⟨by (with_reducible repeat (first | refine blk_drewN ?_ _ | refine blk_drew ?_ | refine blk_alloc ?_ _)); exact BK249.out⟩, ⟨by repeat (first | (with_reducible first | exact HB.out | apply below_alloc | apply pw_below_drewN | apply below_drew1 | refine below_set ?_ GE248.out | refine below_set ?_ GE249.out) | exact HB.out)⟩⟩
  rw [if_pos c8] at H
  have c8b0 : (a0_2 == a1_2) = true := beq_iff_eq.mpr c8
  have c8b1 : (a0_2 != a1_2) = false := bne_eq_false_iff_eq.mpr c8
  clear c8
  by_cases c9 : a0_3 = a1_3
  rotate_left
  ·rw [if_neg c9] at H
   have c9b0 : (a0_3 == a1_3) = false := beq_eq_false_iff_ne.mpr c9
   have c9b1 : (a0_3 != a1_3) = true := bne_iff_ne.mpr c9
   have H' := Aside0.mk H
   clear H
   have hnb37 := NB248_249.out
   have hnc37 := NB249_248.out
   have hcz38_0 : w5.cell? ⟨gb248, 0, none⟩ = some (.int .i64 a0_0) := (blk_cell BK248.out 0).trans rfl
   have hcz38_1 : w5.cell? ⟨gb248, 1, none⟩ = some (.int .i64 a0_1) := (blk_cell BK248.out 1).trans rfl
   have hcz38_2 : w5.cell? ⟨gb248, 2, none⟩ = some (.int .i64 a0_2) := (blk_cell BK248.out 2).trans rfl
   have hcz38_3 : w5.cell? ⟨gb248, 3, none⟩ = some (.int .i64 a0_3) := (blk_cell BK248.out 3).trans rfl
   have hcz38_4 : w5.cell? ⟨gb248, 4, none⟩ = some (.int .i64 a0_4) := (blk_cell BK248.out 4).trans rfl
   have hcz38_5 : w5.cell? ⟨gb248, 5, none⟩ = some (.int .u64 a0_5) := (blk_cell BK248.out 5).trans rfl
   have hcz38_6 : w5.cell? ⟨gb248, 6, none⟩ = some (.int .i64 a0_6) := (blk_cell BK248.out 6).trans rfl
   have hcz38_7 : w5.cell? ⟨gb248, 7, none⟩ = some (.int .i64 a0_7) := (blk_cell BK248.out 7).trans rfl
   have hcz38_8 : w5.cell? ⟨gb248, 8, none⟩ = some (.int .i64 a0_8) := (blk_cell BK248.out 8).trans rfl
   have hcz38_9 : w5.cell? ⟨gb248, 9, none⟩ = some (.int .u64 a0_9) := (blk_cell BK248.out 9).trans rfl
   have hcz38_10 : w5.cell? ⟨gb248, 10, none⟩ = some (.slice A0_10 l0_10.length c0_10) := (blk_cell BK248.out 10).trans rfl
   have hfz38_0 := blk_frozen BK248.out 0
   have hfz38_1 := blk_frozen BK248.out 1
   have hfz38_2 := blk_frozen BK248.out 2
   have hfz38_3 := blk_frozen BK248.out 3
   have hfz38_4 := blk_frozen BK248.out 4
   have hfz38_5 := blk_frozen BK248.out 5
   have hfz38_6 := blk_frozen BK248.out 6
   have hfz38_7 := blk_frozen BK248.out 7
   have hfz38_8 := blk_frozen BK248.out 8
   have hfz38_9 := blk_frozen BK248.out 9
   have hfz38_10 := blk_frozen BK248.out 10
   have hcz39_0 : w5.cell? ⟨gb249, 0, none⟩ = some (.int .i64 a1_0) := (blk_cell BK249.out 0).trans rfl
   have hcz39_1 : w5.cell? ⟨gb249, 1, none⟩ = some (.int .i64 a1_1) := (blk_cell BK249.out 1).trans rfl
   have hcz39_2 : w5.cell? ⟨gb249, 2, none⟩ = some (.int .i64 a1_2) := (blk_cell BK249.out 2).trans rfl
   have hcz39_3 : w5.cell? ⟨gb249, 3, none⟩ = some (.int .i64 a1_3) := (blk_cell BK249.out 3).trans rfl
   have hcz39_4 : w5.cell? ⟨gb249, 4, none⟩ = some (.int .i64 a1_4) := (blk_cell BK249.out 4).trans rfl
   have hcz39_5 : w5.cell? ⟨gb249, 5, none⟩ = some (.int .u64 a1_5) := (blk_cell BK249.out 5).trans rfl
   have hcz39_6 : w5.cell? ⟨gb249, 6, none⟩ = some (.int .i64 a1_6) := (blk_cell BK249.out 6).trans rfl
   have hcz39_7 : w5.cell? ⟨gb249, 7, none⟩ = some (.int .i64 a1_7) := (blk_cell BK249.out 7).trans rfl
   have hcz39_8 : w5.cell? ⟨gb249, 8, none⟩ = some (.int .i64 a1_8) := (blk_cell BK249.out 8).trans rfl
   have hcz39_9 : w5.cell? ⟨gb249, 9, none⟩ = some (.int .u64 a1_9) := (blk_cell BK249.out 9).trans rfl
   have hcz39_10 : w5.cell? ⟨gb249, 10, none⟩ = some (.slice A1_10 l1_10.length c1_10) := (blk_cell BK249.out 10).trans rfl
   have hfz39_0 := blk_frozen BK249.out 0
   have hfz39_1 := blk_frozen BK249.out 1
   have hfz39_2 := blk_frozen BK249.out 2
   have hfz39_3 := blk_frozen BK249.out 3
   have hfz39_4 := blk_frozen BK249.out 4
   have hfz39_5 := blk_frozen BK249.out 5
   have hfz39_6 := blk_frozen BK249.out 6
   have hfz39_7 := blk_frozen BK249.out 7
   have hfz39_8 := blk_frozen BK249.out 8
   have hfz39_9 := blk_frozen BK249.out 9
   have hfz39_10 := blk_frozen BK249.out 10
   go_wp2
   repeat (go_quiet (fail); try go_wp2)
   go_meet
   case rel => exact ⟨_, (true), (by first | rfl | (simp; done) | (simp [*]; done)), H', ⟨by first | omega | exact Nat.le_refl _⟩, ⟨by (with_reducible repeat (first | refine blk_drewN ?_ _ | refine blk_drew ?_ | refine blk_alloc ?_ _)); exact BK248.out⟩, ⟨by (with_reducible repeat (first | refine blk_drewN ?_ _ | refine blk_drew ?_ | refine blk_alloc ?_ _)); exact BK249.out⟩, ⟨by repeat (first | (with_reducible first | exact HB.out | apply below_alloc | apply pw_below_drewN | apply below_drew1 | refine below_set ?_ GE248.out | refine below_set ?_ GE249.out) | exact HB.out)⟩⟩
  rw [if_pos c9] at H
  have c9b0 : (a0_3 == a1_3) = true := beq_iff_eq.mpr c9
  have c9b1 : (a0_3 != a1_3) = false := bne_eq_false_iff_eq.mpr c9
  clear c9
  by_cases c10 : a0_4 = a1_4
  rotate_left
  ·rw [if_neg c10] at H
   have c10b0 : (a0_4 == a1_4) = false := beq_eq_false_iff_ne.mpr c10
   have c10b1 : (a0_4 != a1_4) = true := bne_iff_ne.mpr c10
   have H' := Aside0.mk H
   clear H
   have hnb34 := NB248_249.out
   have hnc34 := NB249_248.out
   have hcz35_0 : w5.cell? ⟨gb248, 0, none⟩ = some (.int .i64 a0_0) := (blk_cell BK248.out 0).trans rfl
   have hcz35_1 : w5.cell? ⟨gb248, 1, none⟩ = some (.int .i64 a0_1) := (blk_cell BK248.out 1).trans rfl
   have hcz35_2 : w5.cell? ⟨gb248, 2, none⟩ = some (.int .i64 a0_2) := (blk_cell BK248.out 2).trans rfl
   have hcz35_3 : w5.cell? ⟨gb248, 3, none⟩ = some (.int .i64 a0_3) := (blk_cell BK248.out 3).trans rfl
   have hcz35_4 : w5.cell? ⟨gb248, 4, none⟩ = some (.int .i64 a0_4) := (blk_cell BK248.out 4).trans rfl
   have hcz35_5 : w5.cell? ⟨gb248, 5, none⟩ = some (.int .u64 a0_5) := (blk_cell BK248.out 5).trans rfl
   have hcz35_6 : w5.cell? ⟨gb248, 6, none⟩ = some (.int .i64 a0_6) := (blk_cell BK248.out 6).trans rfl
   have hcz35_7 : w5.cell? ⟨gb248, 7, none⟩ = some (.int .i64 a0_7) := (blk_cell BK248.out 7).trans rfl
   have hcz35_8 : w5.cell? ⟨gb248, 8, none⟩ = some (.int .i64 a0_8) := (blk_cell BK248.out 8).trans rfl
   have hcz35_9 : w5.cell? ⟨gb248, 9, none⟩ = some (.int .u64 a0_9) := (blk_cell BK248.out 9).trans rfl
   have hcz35_10 : w5.cell? ⟨gb248, 10, none⟩ = some (.slice A0_10 l0_10.length c0_10) := (blk_cell BK248.out 10).trans rfl
   have hfz35_0 := blk_frozen BK248.out 0
   have hfz35_1 := blk_frozen BK248.out 1
   have hfz35_2 := blk_frozen BK248.out 2
   have hfz35_3 := blk_frozen BK248.out 3
   have hfz35_4 := blk_frozen BK248.out 4
   have hfz35_5 := blk_frozen BK248.out 5
   have hfz35_6 := blk_frozen BK248.out 6
   have hfz35_7 := blk_frozen BK248.out 7
   have hfz35_8 := blk_frozen BK248.out 8
   have hfz35_9 := blk_frozen BK248.out 9
   have hfz35_10 := blk_frozen BK248.out 10
   have hcz36_0 : w5.cell? ⟨gb249, 0, none⟩ = some (.int .i64 a1_0) := (blk_cell BK249.out 0).trans rfl
   have hcz36_1 : w5.cell? ⟨gb249, 1, none⟩ = some (.int .i64 a1_1) := (blk_cell BK249.out 1).trans rfl
   have hcz36_2 : w5.cell? ⟨gb249, 2, none⟩ = some (.int .i64 a1_2) := (blk_cell BK249.out 2).trans rfl
   have hcz36_3 : w5.cell? ⟨gb249, 3, none⟩ = some (.int .i64 a1_3) := (blk_cell BK249.out 3).trans rfl
   have hcz36_4 : w5.cell? ⟨gb249, 4, none⟩ = some (.int .i64 a1_4) := (blk_cell BK249.out 4).trans rfl
   have hcz36_5 : w5.cell? ⟨gb249, 5, none⟩ = some (.int .u64 a1_5) := (blk_cell BK249.out 5).trans rfl
   have hcz36_6 : w5.cell? ⟨gb249, 6, none⟩ = some (.int .i64 a1_6) := (blk_cell BK249.out 6).trans rfl
   have hcz36_7 : w5.cell? ⟨gb249, 7, none⟩ = some (.int .i64 a1_7) := (blk_cell BK249.out 7).trans rfl
   have hcz36_8 : w5.cell? ⟨gb249, 8, none⟩ = some (.int .i64 a1_8) := (blk_cell BK249.out 8).trans rfl
   have hcz36_9 : w5.cell? ⟨gb249, 9, none⟩ = some (.int .u64 a1_9) := (blk_cell BK249.out 9).trans rfl
   have hcz36_10 : w5.cell? ⟨gb249, 10, none⟩ = some (.slice A1_10 l1_10.length c1_10) := (blk_cell BK249.out 10).trans rfl
   have hfz36_0 := blk_frozen BK249.out 0
   have hfz36_1 := blk_frozen BK249.out 1
   have hfz36_2 := blk_frozen BK249.out 2
   have hfz36_3 := blk_frozen BK249.out 3
   have hfz36_4 := blk_frozen BK249.out 4
   have hfz36_5 := blk_frozen BK249.out 5
   have hfz36_6 := blk_frozen BK249.out 6
   have hfz36_7 := blk_frozen BK249.out 7
   have hfz36_8 := blk_frozen BK249.out 8
   have hfz36_9 := blk_frozen BK249.out 9
   have hfz36_10 := blk_frozen BK249.out 10
   go_wp2
   repeat (go_quiet (fail); try go_wp2)
   go_meet
   case rel => exact ⟨_, (true), (by first | rfl | (simp; done) | (simp [*]; done)), H', ⟨by first | omega | exact Nat.le_refl _⟩, ⟨by (with_reducible repeat (first | refine blk_drewN ?_ _ | refine blk_drew ?_ | refine blk_alloc ?_ _)); exact BK248.out⟩, ⟨by (with_reducible repeat (first | refine blk_drewN ?_ _ | refine blk_drew ?_ | refine blk_alloc ?_ _)); exact BK249.out⟩, ⟨by repeat (first | (with_reducible first | exact HB.out | apply below_alloc | apply pw_below_drewN | apply below_drew1 | refine below_set ?_ GE248.out | refine below_set ?_ GE249.out) | exact HB.out)⟩⟩
  rw [if_pos c10] at H
  have c10b0 : (a0_4 == a1_4) = true := beq_iff_eq.mpr c10
  have c10b1 : (a0_4 != a1_4) = false := bne_eq_false_iff_eq.mpr c10
  clear c10
  by_cases c11 : a0_5 = a1_5
  rotate_left
  ·rw [if_neg c11] at H
   have c11b0 : (a0_5 == a1_5) = false := beq_eq_false_iff_ne.mpr c11
   have c11b1 : (a0_5 != a1_5) = true := bne_iff_ne.mpr c11
   have H' := Aside0.mk H
   clear H
   have hnb31 := NB248_249.out
   have hnc31 := NB249_248.out
   have hcz32_0 : w5.cell? ⟨gb248, 0, none⟩ = some (.int .i64 a0_0) := (blk_cell BK248.out 0).trans rfl
   have hcz32_1 : w5.cell? ⟨gb248, 1, none⟩ = some (.int .i64 a0_1) := (blk_cell BK248.out 1).trans rfl
   have hcz32_2 : w5.cell? ⟨gb248, 2, none⟩ = some (.int .i64 a0_2) := (blk_cell BK248.out 2).trans rfl
   have hcz32_3 : w5.cell? ⟨gb248, 3, none⟩ = some (.int .i64 a0_3) := (blk_cell BK248.out 3).trans rfl
   have hcz32_4 : w5.cell? ⟨gb248, 4, none⟩ = some (.int .i64 a0_4) := (blk_cell BK248.out 4).trans rfl
   have hcz32_5 : w5.cell? ⟨gb248, 5, none⟩ = some (.int .u64 a0_5) := (blk_cell BK248.out 5).trans rfl
   have hcz32_6 : w5.cell? ⟨gb248, 6, none⟩ = some (.int .i64 a0_6) := (blk_cell BK248.out 6).trans rfl
   have hcz32_7 : w5.cell? ⟨gb248, 7, none⟩ = some (.int .i64 a0_7) := (blk_cell BK248.out 7).trans rfl
   have hcz32_8 : w5.cell? ⟨gb248, 8, none⟩ = some (.int .i64 a0_8) := (blk_cell BK248.out 8).trans rfl
   have hcz32_9 : w5.cell? ⟨gb248, 9, none⟩ = some (.int .u64 a0_9) := (blk_cell BK248.out 9).trans rfl
   have hcz32_10 : w5.cell? ⟨gb248, 10, none⟩ = some (.slice A0_10 l0_10.length c0_10) := (blk_cell BK248.out 10).trans rfl
   have hfz32_0 := blk_frozen BK248.out 0
   have hfz32_1 := blk_frozen BK248.out 1
   have hfz32_2 := blk_frozen BK248.out 2
   have hfz32_3 := blk_frozen BK248.out 3
   have hfz32_4 := blk_frozen BK248.out 4
   have hfz32_5 := blk_frozen BK248.out 5
   have hfz32_6 := blk_frozen BK248.out 6
   have hfz32_7 := blk_frozen BK248.out 7
   have hfz32_8 := blk_frozen BK248.out 8
   have hfz32_9 := blk_frozen BK248.out 9
   have hfz32_10 := blk_frozen BK248.out 10
   have hcz33_0 : w5.cell? ⟨gb249, 0, none⟩ = some (.int .i64 a1_0) := (blk_cell BK249.out 0).trans rfl
   have hcz33_1 : w5.cell? ⟨gb249, 1, none⟩ = some (.int .i64 a1_1) := (blk_cell BK249.out 1).trans rfl
   have hcz33_2 : w5.cell? ⟨gb249, 2, none⟩ = some (.int .i64 a1_2) := (blk_cell BK249.out 2).trans rfl
   have hcz33_3 : w5.cell? ⟨gb249, 3, none⟩ = some (.int .i64 a1_3) := (blk_cell BK249.out 3).trans rfl
   have hcz33_4 : w5.cell? ⟨gb249, 4, none⟩ = some (.int .i64 a1_4) := (blk_cell BK249.out 4).trans rfl
   have hcz33_5 : w5.cell? ⟨gb249, 5, none⟩ = some (.int .u64 a1_5) := (blk_cell BK249.out 5).trans rfl
   have hcz33_6 : w5.cell? ⟨gb249, 6, none⟩ = some (.int .i64 a1_6) := (blk_cell BK249.out 6).trans rfl
   have hcz33_7 : w5.cell? ⟨gb249, 7, none⟩ = some (.int .i64 a1_7) := (blk_cell BK249.out 7).trans rfl
   have hcz33_8 : w5.cell? ⟨gb249, 8, none⟩ = some (.int .i64 a1_8) := (blk_cell BK249.out 8).trans rfl
   have hcz33_9 : w5.cell? ⟨gb249, 9, none⟩ = some (.int .u64 a1_9) := (blk_cell BK249.out 9).trans rfl
   have hcz33_10 : w5.cell? ⟨gb249, 10, none⟩ = some (.slice A1_10 l1_10.length c1_10) := (blk_cell BK249.out 10).trans rfl
   have hfz33_0 := blk_frozen BK249.out 0
   have hfz33_1 := blk_frozen BK249.out 1
   have hfz33_2 := blk_frozen BK249.out 2
   have hfz33_3 := blk_frozen BK249.out 3
   have hfz33_4 := blk_frozen BK249.out 4
   have hfz33_5 := blk_frozen BK249.out 5
   have hfz33_6 := blk_frozen BK249.out 6
   have hfz33_7 := blk_frozen BK249.out 7
   have hfz33_8 := blk_frozen BK249.out 8
   have hfz33_9 := blk_frozen BK249.out 9
   have hfz33_10 := blk_frozen BK249.out 10
   go_wp2
   repeat (go_quiet (fail); try go_wp2)
   go_meet
   case rel => exact ⟨_, (true), (by first | rfl | (simp; done) | (simp [*]; done)), H', ⟨by first | omega | exact Nat.le_refl _⟩, ⟨by (with_reducible repeat (first | refine blk_drewN ?_ _ | refine blk_drew ?_ | refine blk_alloc ?_ _)); exact BK248.out⟩, ⟨by (with_reducible repeat (first | refine blk_drewN ?_ _ | refine blk_drew ?_ | refine blk_alloc ?_ _)); exact BK249.out⟩, ⟨by repeat (first | (with_reducible first | exact HB.out | apply below_alloc | apply pw_below_drewN | apply below_drew1 | refine below_set ?_ GE248.out | refine below_set ?_ GE249.out) | exact HB.out)⟩⟩
  rw [if_pos c11] at H
  have c11b0 : (a0_5 == a1_5) = true := beq_iff_eq.mpr c11
  have c11b1 : (a0_5 != a1_5) = false := bne_eq_false_iff_eq.mpr c11
  clear c11
  by_cases c12 : a0_6 = a1_6
  rotate_left
  ·rw [if_neg c12] at H
   have c12b0 : (a0_6 == a1_6) = false := beq_eq_false_iff_ne.mpr c12
   have c12b1 : (a0_6 != a1_6) = true := bne_iff_ne.mpr c12
   have H' := Aside0.mk H
   clear H
   have hnb28 := NB248_249.out
   have hnc28 := NB249_248.out
   have hcz29_0 : w5.cell? ⟨gb248, 0, none⟩ = some (.int .i64 a0_0) := (blk_cell BK248.out 0).trans rfl
   have hcz29_1 : w5.cell? ⟨gb248, 1, none⟩ = some (.int .i64 a0_1) := (blk_cell BK248.out 1).trans rfl
   have hcz29_2 : w5.cell? ⟨gb248, 2, none⟩ = some (.int .i64 a0_2) := (blk_cell BK248.out 2).trans rfl
   have hcz29_3 : w5.cell? ⟨gb248, 3, none⟩ = some (.int .i64 a0_3) := (blk_cell BK248.out 3).trans rfl
   have hcz29_4 : w5.cell? ⟨gb248, 4, none⟩ = some (.int .i64 a0_4) := (blk_cell BK248.out 4).trans rfl
   have hcz29_5 : w5.cell? ⟨gb248, 5, none⟩ = some (.int .u64 a0_5) := (blk_cell BK248.out 5).trans rfl
   have hcz29_6 : w5.cell? ⟨gb248, 6, none⟩ = some (.int .i64 a0_6) := (blk_cell BK248.out 6).trans rfl
   have hcz29_7 : w5.cell? ⟨gb248, 7, none⟩ = some (.int .i64 a0_7) := (blk_cell BK248.out 7).trans rfl
   have hcz29_8 : w5.cell? ⟨gb248, 8, none⟩ = some (.int .i64 a0_8) := (blk_cell BK248.out 8).trans rfl
   have hcz29_9 : w5.cell? ⟨gb248, 9, none⟩ = some (.int .u64 a0_9) := (blk_cell BK248.out 9).trans rfl
   have hcz29_10 : w5.cell? ⟨gb248, 10, none⟩ = some (.slice A0_10 l0_10.length c0_10) := (blk_cell BK248.out 10).trans rfl
   have hfz29_0 := blk_frozen BK248.out 0
   have hfz29_1 := blk_frozen BK248.out 1
   have hfz29_2 := blk_frozen BK248.out 2
   have hfz29_3 := blk_frozen BK248.out 3
   have hfz29_4 := blk_frozen BK248.out 4
   have hfz29_5 := blk_frozen BK248.out 5
   have hfz29_6 := blk_frozen BK248.out 6
   have hfz29_7 := blk_frozen BK248.out 7
   have hfz29_8 := blk_frozen BK248.out 8
   have hfz29_9 := blk_frozen BK248.out 9
   have hfz29_10 := blk_frozen BK248.out 10
   have hcz30_0 : w5.cell? ⟨gb249, 0, none⟩ = some (.int .i64 a1_0) := (blk_cell BK249.out 0).trans rfl
   have hcz30_1 : w5.cell? ⟨gb249, 1, none⟩ = some (.int .i64 a1_1) := (blk_cell BK249.out 1).trans rfl
   have hcz30_2 : w5.cell? ⟨gb249, 2, none⟩ = some (.int .i64 a1_2) := (blk_cell BK249.out 2).trans rfl
   have hcz30_3 : w5.cell? ⟨gb249, 3, none⟩ = some (.int .i64 a1_3) := (blk_cell BK249.out 3).trans rfl
   have hcz30_4 : w5.cell? ⟨gb249, 4, none⟩ = some (.int .i64 a1_4) := (blk_cell BK249.out 4).trans rfl
   have hcz30_5 : w5.cell? ⟨gb249, 5, none⟩ = some (.int .u64 a1_5) := (blk_cell BK249.out 5).trans rfl
   have hcz30_6 : w5.cell? ⟨gb249, 6, none⟩ = some (.int .i64 a1_6) := (blk_cell BK249.out 6).trans rfl
   have hcz30_7 : w5.cell? ⟨gb249, 7, none⟩ = some (.int .i64 a1_7) := (blk_cell BK249.out 7).trans rfl
   have hcz30_8 : w5.cell? ⟨gb249, 8, none⟩ = some (.int .i64 a1_8) := (blk_cell BK249.out 8).trans rfl
   have hcz30_9 : w5.cell? ⟨gb249, 9, none⟩ = some (.int .u64 a1_9) := (blk_cell BK249.out 9).trans rfl
   have hcz30_10 : w5.cell? ⟨gb249, 10, none⟩ = some (.slice A1_10 l1_10.length c1_10) := (blk_cell BK249.out 10).trans rfl
   have hfz30_0 := blk_frozen BK249.out 0
   have hfz30_1 := blk_frozen BK249.out 1
   have hfz30_2 := blk_frozen BK249.out 2
   have hfz30_3 := blk_frozen BK249.out 3
   have hfz30_4 := blk_frozen BK249.out 4
   have hfz30_5 := blk_frozen BK249.out 5
   have hfz30_6 := blk_frozen BK249.out 6
   have hfz30_7 := blk_frozen BK249.out 7
   have hfz30_8 := blk_frozen BK249.out 8
   have hfz30_9 := blk_frozen BK249.out 9
   have hfz30_10 := blk_frozen BK249.out 10
   go_wp2
   repeat (go_quiet (fail); try go_wp2)
   go_meet
   case rel => exact ⟨_, (true), (by first | rfl | (simp; done) | (simp [*]; done)), H', ⟨by first | omega | exact Nat.le_refl _⟩, ⟨by (with_reducible repeat (first | refine blk_drewN ?_ _ | refine blk_drew ?_ | refine blk_alloc ?_ _)); exact BK248.out⟩, ⟨by (with_reducible repeat (first | refine blk_drewN ?_ _ | refine blk_drew ?_ | refine blk_alloc ?_ _)); exact BK249.out⟩, ⟨by repeat (first | (with_reducible first | exact HB.out | apply below_alloc | apply pw_below_drewN | apply below_drew1 | refine below_set ?_ GE248.out | refine below_set ?_ GE249.out) | exact HB.out)⟩⟩
  rw [if_pos c12] at H
  have c12b0 : (a0_6 == a1_6) = true := beq_iff_eq.mpr c12
  have c12b1 : (a0_6 != a1_6) = false := bne_eq_false_iff_eq.mpr c12
  clear c12
  by_cases c13 : a0_7 = a1_7
  rotate_left
  ·rw [if_neg c13] at H
   have c13b0 : (a0_7 == a1_7) = false := beq_eq_false_iff_ne.mpr c13
   have c13b1 : (a0_7 != a1_7) = true := bne_iff_ne.mpr c13
   have H' := Aside0.mk H
   clear H
   have hnb25 := NB248_249.out
   have hnc25 := NB249_248.out
   have hcz26_0 : w5.cell? ⟨gb248, 0, none⟩ = some (.int .i64 a0_0) := (blk_cell BK248.out 0).trans rfl
   have hcz26_1 : w5.cell? ⟨gb248, 1, none⟩ = some (.int .i64 a0_1) := (blk_cell BK248.out 1).trans rfl
   have hcz26_2 : w5.cell? ⟨gb248, 2, none⟩ = some (.int .i64 a0_2) := (blk_cell BK248.out 2).trans rfl
   have hcz26_3 : w5.cell? ⟨gb248, 3, none⟩ = some (.int .i64 a0_3) := (blk_cell BK248.out 3).trans rfl
   have hcz26_4 : w5.cell? ⟨gb248, 4, none⟩ = some (.int .i64 a0_4) := (blk_cell BK248.out 4).trans rfl
   have hcz26_5 : w5.cell? ⟨gb248, 5, none⟩ = some (.int .u64 a0_5) := (blk_cell BK248.out 5).trans rfl
   have hcz26_6 : w5.cell? ⟨gb248, 6, none⟩ = some (.int .i64 a0_6) := (blk_cell BK248.out 6).trans rfl
   have hcz26_7 : w5.cell? ⟨gb248, 7, none⟩ = some (.int .i64 a0_7) := (blk_cell BK248.out 7).trans rfl
   have hcz26_8 : w5.cell? ⟨gb248, 8, none⟩ = some (.int .i64 a0_8) := (blk_cell BK248.out 8).trans rfl
   have hcz26_9 : w5.cell? ⟨gb248, 9, none⟩ = some (.int .u64 a0_9) := (blk_cell BK248.out 9).trans rfl
   have hcz26_10 : w5.cell? ⟨gb248, 10, none⟩ = some (.slice A0_10 l0_10.length c0_10) := (blk_cell BK248.out 10).trans rfl
   have hfz26_0 := blk_frozen BK248.out 0
   have hfz26_1 := blk_frozen BK248.out 1
   have hfz26_2 := blk_frozen BK248.out 2
   have hfz26_3 := blk_frozen BK248.out 3
   have hfz26_4 := blk_frozen BK248.out 4
   have hfz26_5 := blk_frozen BK248.out 5
   have hfz26_6 := blk_frozen BK248.out 6
   have hfz26_7 := blk_frozen BK248.out 7
   have hfz26_8 := blk_frozen BK248.out 8
   have hfz26_9 := blk_frozen BK248.out 9
   have hfz26_10 := blk_frozen BK248.out 10
   have hcz27_0 : w5.cell? ⟨gb249, 0, none⟩ = some (.int .i64 a1_0) := (blk_cell BK249.out 0).trans rfl
   have hcz27_1 : w5.cell? ⟨gb249, 1, none⟩ = some (.int .i64 a1_1) := (blk_cell BK249.out 1).trans rfl
   have hcz27_2 : w5.cell? ⟨gb249, 2, none⟩ = some (.int .i64 a1_2) := (blk_cell BK249.out 2).trans rfl
   have hcz27_3 : w5.cell? ⟨gb249, 3, none⟩ = some (.int .i64 a1_3) := (blk_cell BK249.out 3).trans rfl
   have hcz27_4 : w5.cell? ⟨gb249, 4, none⟩ = some (.int .i64 a1_4) := (blk_cell BK249.out 4).trans rfl
   have hcz27_5 : w5.cell? ⟨gb249, 5, none⟩ = some (.int .u64 a1_5) := (blk_cell BK249.out 5).trans rfl
   have hcz27_6 : w5.cell? ⟨gb249, 6, none⟩ = some (.int .i64 a1_6) := (blk_cell BK249.out 6).trans rfl
   have hcz27_7 : w5.cell? ⟨gb249, 7, none⟩ = some (.int .i64 a1_7) := (blk_cell BK249.out 7).trans rfl
   have hcz27_8 : w5.cell? ⟨gb249, 8, none⟩ = some (.int .i64 a1_8) := (blk_cell BK249.out 8).trans rfl
   have hcz27_9 : w5.cell? ⟨gb249, 9, none⟩ = some (.int .u64 a1_9) := (blk_cell BK249.out 9).trans rfl
   have hcz27_10 : w5.cell? ⟨gb249, 10, none⟩ = some (.slice A1_10 l1_10.length c1_10) := (blk_cell BK249.out 10).trans rfl
   have hfz27_0 := blk_frozen BK249.out 0
   have hfz27_1 := blk_frozen BK249.out 1
   have hfz27_2 := blk_frozen BK249.out 2
   have hfz27_3 := blk_frozen BK249.out 3
   have hfz27_4 := blk_frozen BK249.out 4
   have hfz27_5 := blk_frozen BK249.out 5
   have hfz27_6 := blk_frozen BK249.out 6
   have hfz27_7 := blk_frozen BK249.out 7
   have hfz27_8 := blk_frozen BK249.out 8
   have hfz27_9 := blk_frozen BK249.out 9
   have hfz27_10 := blk_frozen BK249.out 10
   go_wp2
   repeat (go_quiet (fail); try go_wp2)
   go_meet
   case rel => exact ⟨_, (true), (by first | rfl | (simp; done) | (simp [*]; done)), H', ⟨by first | omega | exact Nat.le_refl _⟩, ⟨by (with_reducible repeat (first | refine blk_drewN ?_ _ | refine blk_drew ?_ | refine blk_alloc ?_ _)); exact BK248.out⟩, ⟨by (with_reducible repeat (first | refine blk_drewN ?_ _ | refine blk_drew ?_ | refine blk_alloc ?_ _)); exact BK249.out⟩, ⟨by repeat (first | (with_reducible first | exact HB.out | apply below_alloc | apply pw_below_drewN | apply below_drew1 | refine below_set ?_ GE248.out | refine below_set ?_ GE249.out) | exact HB.out)⟩⟩
  rw [if_pos c13] at H
  have c13b0 : (a0_7 == a1_7) = true := beq_iff_eq.mpr c13
  have c13b1 : (a0_7 != a1_7) = false := bne_eq_false_iff_eq.mpr c13
  clear c13
  by_cases c14 : a0_8 = a1_8
  rotate_left
  ·rw [if_neg c14] at H
   have c14b0 : (a0_8 == a1_8) = false := beq_eq_false_iff_ne.mpr c14
   have c14b1 : (a0_8 != a1_8) = true := bne_iff_ne.mpr c14
   have H' := Aside0.mk H
   clear H
   have hnb22 := NB248_249.out
   have hnc22 := NB249_248.out
   have hcz23_0 : w5.cell? ⟨gb248, 0, none⟩ = some (.int .i64 a0_0) := (blk_cell BK248.out 0).trans rfl
   have hcz23_1 : w5.cell? ⟨gb248, 1, none⟩ = some (.int .i64 a0_1) := (blk_cell BK248.out 1).trans rfl
   have hcz23_2 : w5.cell? ⟨gb248, 2, none⟩ = some (.int .i64 a0_2) := (blk_cell BK248.out 2).trans rfl
   have hcz23_3 : w5.cell? ⟨gb248, 3, none⟩ = some (.int .i64 a0_3) := (blk_cell BK248.out 3).trans rfl
   have hcz23_4 : w5.cell? ⟨gb248, 4, none⟩ = some (.int .i64 a0_4) := (blk_cell BK248.out 4).trans rfl
   have hcz23_5 : w5.cell? ⟨gb248, 5, none⟩ = some (.int .u64 a0_5) := (blk_cell BK248.out 5).trans rfl
   have hcz23_6 : w5.cell? ⟨gb248, 6, none⟩ = some (.int .i64 a0_6) := (blk_cell BK248.out 6).trans rfl
   have hcz23_7 : w5.cell? ⟨gb248, 7, none⟩ = some (.int .i64 a0_7) := (blk_cell BK248.out 7).trans rfl
   have hcz23_8 : w5.cell? ⟨gb248, 8, none⟩ = some (.int .i64 a0_8) := (blk_cell BK248.out 8).trans rfl
   have hcz23_9 : w5.cell? ⟨gb248, 9, none⟩ = some (.int .u64 a0_9) := (blk_cell BK248.out 9).trans rfl
   have hcz23_10 : w5.cell? ⟨gb248, 10, none⟩ = some (.slice A0_10 l0_10.length c0_10) := (blk_cell BK248.out 10).trans rfl
   have hfz23_0 := blk_frozen BK248.out 0
   have hfz23_1 := blk_frozen BK248.out 1
   have hfz23_2 := blk_frozen BK248.out 2
   have hfz23_3 := blk_frozen BK248.out 3
   have hfz23_4 := blk_frozen BK248.out 4
   have hfz23_5 := blk_frozen BK248.out 5
   have hfz23_6 := blk_frozen BK248.out 6
   have hfz23_7 := blk_frozen BK248.out 7
   have hfz23_8 := blk_frozen BK248.out 8
   have hfz23_9 := blk_frozen BK248.out 9
   have hfz23_10 := blk_frozen BK248.out 10
   have hcz24_0 : w5.cell? ⟨gb249, 0, none⟩ = some (.int .i64 a1_0) := (blk_cell BK249.out 0).trans rfl
   have hcz24_1 : w5.cell? ⟨gb249, 1, none⟩ = some (.int .i64 a1_1) := (blk_cell BK249.out 1).trans rfl
   have hcz24_2 : w5.cell? ⟨gb249, 2, none⟩ = some (.int .i64 a1_2) := (blk_cell BK249.out 2).trans rfl
   have hcz24_3 : w5.cell? ⟨gb249, 3, none⟩ = some (.int .i64 a1_3) := (blk_cell BK249.out 3).trans rfl
   have hcz24_4 : w5.cell? ⟨gb249, 4, none⟩ = some (.int .i64 a1_4) := (blk_cell BK249.out 4).trans rfl
   have hcz24_5 : w5.cell? ⟨gb249, 5, none⟩ = some (.int .u64 a1_5) := (blk_cell BK249.out 5).trans rfl
   have hcz24_6 : w5.cell? ⟨gb249, 6, none⟩ = some (.int .i64 a1_6) := (blk_cell BK249.out 6).trans rfl
   have hcz24_7 : w5.cell? ⟨gb249, 7, none⟩ = some (.int .i64 a1_7) := (blk_cell BK249.out 7).trans rfl
   have hcz24_8 : w5.cell? ⟨gb249, 8, none⟩ = some (.int .i64 a1_8) := (blk_cell BK249.out 8).trans rfl
   have hcz24_9 : w5.cell? ⟨gb249, 9, none⟩ = some (.int .u64 a1_9) := (blk_cell BK249.out 9).trans rfl
   have hcz24_10 : w5.cell? ⟨gb249, 10, none⟩ = some (.slice A1_10 l1_10.length c1_10) := (blk_cell BK249.out 10).trans rfl
   have hfz24_0 := blk_frozen BK249.out 0
   have hfz24_1 := blk_frozen BK249.out 1
   have hfz24_2 := blk_frozen BK249.out 2
   have hfz24_3 := blk_frozen BK249.out 3
   have hfz24_4 := blk_frozen BK249.out 4
   have hfz24_5 := blk_frozen BK249.out 5
   have hfz24_6 := blk_frozen BK249.out 6
   have hfz24_7 := blk_frozen BK249.out 7
   have hfz24_8 := blk_frozen BK249.out 8
   have hfz24_9 := blk_frozen BK249.out 9
   have hfz24_10 := blk_frozen BK249.out 10
   go_wp2
   repeat (go_quiet (fail); try go_wp2)
   go_meet
   case rel => exact ⟨_, (true), (by first | rfl | (simp; done) | (simp [*]; done)), H', ⟨by first | omega | exact Nat.le_refl _⟩, ⟨by (with_reducible repeat (first | refine blk_drewN ?_ _ | refine blk_drew ?_ | refine blk_alloc ?_ _)); exact BK248.out⟩, ⟨by (with_reducible repeat (first | refine blk_drewN ?_ _ | refine blk_drew ?_ | refine blk_alloc ?_ _)); exact BK249.out⟩, ⟨by repeat (first | (with_reducible first | exact HB.out | apply below_alloc | apply pw_below_drewN | apply below_drew1 | refine below_set ?_ GE248.out | refine below_set ?_ GE249.out) | exact HB.out)⟩⟩
  rw [if_pos c14] at H
  have c14b0 : (a0_8 == a1_8) = true := beq_iff_eq.mpr c14
  have c14b1 : (a0_8 != a1_8) = false := bne_eq_false_iff_eq.mpr c14
  clear c14
  by_cases c15 : a0_9 = a1_9
  rotate_left
  ·rw [if_neg c15] at H
   have c15b0 : (a0_9 == a1_9) = false := beq_eq_false_iff_ne.mpr c15
   have c15b1 : (a0_9 != a1_9) = true := bne_iff_ne.mpr c15
   have H' := Aside0.mk H
   clear H
   have hnb19 := NB248_249.out
   have hnc19 := NB249_248.out
   have hcz20_0 : w5.cell? ⟨gb248, 0, none⟩ = some (.int .i64 a0_0) := (blk_cell BK248.out 0).trans rfl
   have hcz20_1 : w5.cell? ⟨gb248, 1, none⟩ = some (.int .i64 a0_1) := (blk_cell BK248.out 1).trans rfl
   have hcz20_2 : w5.cell? ⟨gb248, 2, none⟩ = some (.int .i64 a0_2) := (blk_cell BK248.out 2).trans rfl
   have hcz20_3 : w5.cell? ⟨gb248, 3, none⟩ = some (.int .i64 a0_3) := (blk_cell BK248.out 3).trans rfl
   have hcz20_4 : w5.cell? ⟨gb248, 4, none⟩ = some (.int .i64 a0_4) := (blk_cell BK248.out 4).trans rfl
   have hcz20_5 : w5.cell? ⟨gb248, 5, none⟩ = some (.int .u64 a0_5) := (blk_cell BK248.out 5).trans rfl
   have hcz20_6 : w5.cell? ⟨gb248, 6, none⟩ = some (.int .i64 a0_6) := (blk_cell BK248.out 6).trans rfl
   have hcz20_7 : w5.cell? ⟨gb248, 7, none⟩ = some (.int .i64 a0_7) := (blk_cell BK248.out 7).trans rfl
   have hcz20_8 : w5.cell? ⟨gb248, 8, none⟩ = some (.int .i64 a0_8) := (blk_cell BK248.out 8).trans rfl
   have hcz20_9 : w5.cell? ⟨gb248, 9, none⟩ = some (.int .u64 a0_9) := (blk_cell BK248.out 9).trans rfl
   have hcz20_10 : w5.cell? ⟨gb248, 10, none⟩ = some (.slice A0_10 l0_10.length c0_10) := (blk_cell BK248.out 10).trans rfl
   have hfz20_0 := blk_frozen BK248.out 0
   have hfz20_1 := blk_frozen BK248.out 1
   have hfz20_2 := blk_frozen BK248.out 2
   have hfz20_3 := blk_frozen BK248.out 3
   have hfz20_4 := blk_frozen BK248.out 4
   have hfz20_5 := blk_frozen BK248.out 5
   have hfz20_6 := blk_frozen BK248.out 6
   have hfz20_7 := blk_frozen BK248.out 7
   have hfz20_8 := blk_frozen BK248.out 8
   have hfz20_9 := blk_frozen BK248.out 9
   have hfz20_10 := blk_frozen BK248.out 10
   have hcz21_0 : w5.cell? ⟨gb249, 0, none⟩ = some (.int .i64 a1_0) := (blk_cell BK249.out 0).trans rfl
   have hcz21_1 : w5.cell? ⟨gb249, 1, none⟩ = some (.int .i64 a1_1) := (blk_cell BK249.out 1).trans rfl
   have hcz21_2 : w5.cell? ⟨gb249, 2, none⟩ = some (.int .i64 a1_2) := (blk_cell BK249.out 2).trans rfl
   have hcz21_3 : w5.cell? ⟨gb249, 3, none⟩ = some (.int .i64 a1_3) := (blk_cell BK249.out 3).trans rfl
   have hcz21_4 : w5.cell? ⟨gb249, 4, none⟩ = some (.int .i64 a1_4) := (blk_cell BK249.out 4).trans rfl
   have hcz21_5 : w5.cell? ⟨gb249, 5, none⟩ = some (.int .u64 a1_5) := (blk_cell BK249.out 5).trans rfl
   have hcz21_6 : w5.cell? ⟨gb249, 6, none⟩ = some (.int .i64 a1_6) := (blk_cell BK249.out 6).trans rfl
   have hcz21_7 : w5.cell? ⟨gb249, 7, none⟩ = some (.int .i64 a1_7) := (blk_cell BK249.out 7).trans rfl
   have hcz21_8 : w5.cell? ⟨gb249, 8, none⟩ = some (.int .i64 a1_8) := (blk_cell BK249.out 8).trans rfl
   have hcz21_9 : w5.cell? ⟨gb249, 9, none⟩ = some (.int .u64 a1_9) := (blk_cell BK249.out 9).trans rfl
   have hcz21_10 : w5.cell? ⟨gb249, 10, none⟩ = some (.slice A1_10 l1_10.length c1_10) := (blk_cell BK249.out 10).trans rfl
   have hfz21_0 := blk_frozen BK249.out 0
   have hfz21_1 := blk_frozen BK249.out 1
   have hfz21_2 := blk_frozen BK249.out 2
   have hfz21_3 := blk_frozen BK249.out 3
   have hfz21_4 := blk_frozen BK249.out 4
   have hfz21_5 := blk_frozen BK249.out 5
   have hfz21_6 := blk_frozen BK249.out 6
   have hfz21_7 := blk_frozen BK249.out 7
   have hfz21_8 := blk_frozen BK249.out 8
   have hfz21_9 := blk_frozen BK249.out 9
   have hfz21_10 := blk_frozen BK249.out 10
   go_wp2
   repeat (go_quiet (fail); try go_wp2)
   go_meet
   case rel => exact ⟨_, (true), (by first | rfl | (simp; done) | (simp [*]; done)), H', ⟨by first | omega | exact Nat.le_refl _⟩, ⟨by (with_reducible repeat (first | refine blk_drewN ?_ _ | refine blk_drew ?_ | refine blk_alloc ?_ _)); exact BK248.out⟩, ⟨by (with_reducible repeat (first | refine blk_drewN ?_ _ | refine blk_drew ?_ | refine blk_alloc ?_ _)); exact BK249.out⟩, ⟨by repeat (first | (with_reducible first | exact HB.out | apply below_alloc | apply pw_below_drewN | apply below_drew1 | refine below_set ?_ GE248.out | refine below_set ?_ GE249.out) | exact HB.out)⟩⟩
  rw [if_pos c15] at H
  have c15b0 : (a0_9 == a1_9) = true := beq_iff_eq.mpr c15
  have c15b1 : (a0_9 != a1_9) = false := bne_eq_false_iff_eq.mpr c15
  clear c15
  have H' := Aside0.mk H
  clear H
  have hnb16 := NB248_249.out
  have hnc16 := NB249_248.out
  have hcz17_0 : w5.cell? ⟨gb248, 0, none⟩ = some (.int .i64 a0_0) := (blk_cell BK248.out 0).trans rfl
  have hcz17_1 : w5.cell? ⟨gb248, 1, none⟩ = some (.int .i64 a0_1) := (blk_cell BK248.out 1).trans rfl
  have hcz17_2 : w5.cell? ⟨gb248, 2, none⟩ = some (.int .i64 a0_2) := (blk_cell BK248.out 2).trans rfl
  have hcz17_3 : w5.cell? ⟨gb248, 3, none⟩ = some (.int .i64 a0_3) := (blk_cell BK248.out 3).trans rfl
  have hcz17_4 : w5.cell? ⟨gb248, 4, none⟩ = some (.int .i64 a0_4) := (blk_cell BK248.out 4).trans rfl
  have hcz17_5 : w5.cell? ⟨gb248, 5, none⟩ = some (.int .u64 a0_5) := (blk_cell BK248.out 5).trans rfl
  have hcz17_6 : w5.cell? ⟨gb248, 6, none⟩ = some (.int .i64 a0_6) := (blk_cell BK248.out 6).trans rfl
  have hcz17_7 : w5.cell? ⟨gb248, 7, none⟩ = some (.int .i64 a0_7) := (blk_cell BK248.out 7).trans rfl
  have hcz17_8 : w5.cell? ⟨gb248, 8, none⟩ = some (.int .i64 a0_8) := (blk_cell BK248.out 8).trans rfl
  have hcz17_9 : w5.cell? ⟨gb248, 9, none⟩ = some (.int .u64 a0_9) := (blk_cell BK248.out 9).trans rfl
  have hcz17_10 : w5.cell? ⟨gb248, 10, none⟩ = some (.slice A0_10 l0_10.length c0_10) := (blk_cell BK248.out 10).trans rfl
  have hfz17_0 := blk_frozen BK248.out 0
  have hfz17_1 := blk_frozen BK248.out 1
  have hfz17_2 := blk_frozen BK248.out 2
  have hfz17_3 := blk_frozen BK248.out 3
  have hfz17_4 := blk_frozen BK248.out 4
  have hfz17_5 := blk_frozen BK248.out 5
  have hfz17_6 := blk_frozen BK248.out 6
  have hfz17_7 := blk_frozen BK248.out 7
  have hfz17_8 := blk_frozen BK248.out 8
  have hfz17_9 := blk_frozen BK248.out 9
  have hfz17_10 := blk_frozen BK248.out 10
  have hcz18_0 : w5.cell? ⟨gb249, 0, none⟩ = some (.int .i64 a1_0) := (blk_cell BK249.out 0).trans rfl
  have hcz18_1 : w5.cell? ⟨gb249, 1, none⟩ = some (.int .i64 a1_1) := (blk_cell BK249.out 1).trans rfl
  have hcz18_2 : w5.cell? ⟨gb249, 2, none⟩ = some (.int .i64 a1_2) := (blk_cell BK249.out 2).trans rfl
  have hcz18_3 : w5.cell? ⟨gb249, 3, none⟩ = some (.int .i64 a1_3) := (blk_cell BK249.out 3).trans rfl
  have hcz18_4 : w5.cell? ⟨gb249, 4, none⟩ = some (.int .i64 a1_4) := (blk_cell BK249.out 4).trans rfl
  have hcz18_5 : w5.cell? ⟨gb249, 5, none⟩ = some (.int .u64 a1_5) := (blk_cell BK249.out 5).trans rfl
  have hcz18_6 : w5.cell? ⟨gb249, 6, none⟩ = some (.int .i64 a1_6) := (blk_cell BK249.out 6).trans rfl
  have hcz18_7 : w5.cell? ⟨gb249, 7, none⟩ = some (.int .i64 a1_7) := (blk_cell BK249.out 7).trans rfl
  have hcz18_8 : w5.cell? ⟨gb249, 8, none⟩ = some (.int .i64 a1_8) := (blk_cell BK249.out 8).trans rfl
  have hcz18_9 : w5.cell? ⟨gb249, 9, none⟩ = some (.int .u64 a1_9) := (blk_cell BK249.out 9).trans rfl
  have hcz18_10 : w5.cell? ⟨gb249, 10, none⟩ = some (.slice A1_10 l1_10.length c1_10) := (blk_cell BK249.out 10).trans rfl
  have hfz18_0 := blk_frozen BK249.out 0
  have hfz18_1 := blk_frozen BK249.out 1
  have hfz18_2 := blk_frozen BK249.out 2
  have hfz18_3 := blk_frozen BK249.out 3
  have hfz18_4 := blk_frozen BK249.out 4
  have hfz18_5 := blk_frozen BK249.out 5
  have hfz18_6 := blk_frozen BK249.out 6
  have hfz18_7 := blk_frozen BK249.out 7
  have hfz18_8 := blk_frozen BK249.out 8
  have hfz18_9 := blk_frozen BK249.out 9
  have hfz18_10 := blk_frozen BK249.out 10
  go_wp2
  repeat (go_quiet (fail); try go_wp2)
  go_meet
  case rel => exact ⟨_, (((l0_10.length : Int) != (l1_10.length : Int))), (by first | rfl | (simp; done) | (simp [*]; done)), H', ⟨by first | omega | exact Nat.le_refl _⟩, ⟨by (with_reducible repeat (first | refine blk_drewN ?_ _ | refine blk_drew ?_ | refine blk_alloc ?_ _)); exact BK248.out⟩, ⟨by (with_reducible repeat (first | refine blk_drewN ?_ _ | refine blk_drew ?_ | refine blk_alloc ?_ _)); exact BK249.out⟩, ⟨by repeat (first | (with_reducible first | exact HB.out | apply below_alloc | apply pw_below_drewN | apply below_drew1 | refine below_set ?_ GE248.out | refine below_set ?_ GE249.out) | exact HB.out)⟩⟩
 case rest =>
  clear HC3
  try clear c1
  try clear c2
  try clear p2
  try clear c3
  try clear c4
  try clear c6
  try clear c6b0
  try clear c6b1
  try clear c7
  try clear c7b0
  try clear c7b1
  try clear c8
  try clear c8b0
  try clear c8b1
  try clear c9
  try clear c9b0
  try clear c9b1
  try clear c10
  try clear c10b0
  try clear c10b1
  try clear c11
  try clear c11b0
  try clear c11b1
  try clear c12
  try clear c12b0
  try clear c12b1
  try clear c13
  try clear c13b0
  try clear c13b1
  try clear c14
  try clear c14b0
  try clear c14b1
  try clear c15
  try clear c15b0
  try clear c15b1
  try clear c19
  try clear c22
  try clear c25
  try clear c28
  try clear c31
  try clear c34
  try clear c37
  try clear c40
  try clear c43
  try clear c46
  try clear hcz17_1
  try clear hcz17_10
  try clear hcz17_2
  try clear hcz17_3
  try clear hcz17_4
  try clear hcz17_5
  try clear hcz17_6
  try clear hcz17_7
  try clear hcz17_8
  try clear hcz17_9
  try clear hcz18_0
  try clear hcz18_1
  try clear hcz18_10
  try clear hcz18_2
  try clear hcz18_3
  try clear hcz18_4
  try clear hcz18_5
  try clear hcz18_6
  try clear hcz18_7
  try clear hcz18_8
  try clear hcz18_9
  try clear hcz20_0
  try clear hcz20_1
  try clear hcz20_10
  try clear hcz20_2
  try clear hcz20_3
  try clear hcz20_4
  try clear hcz20_5
  try clear hcz20_6
  try clear hcz20_7
  try clear hcz20_8
  try clear hcz20_9
  try clear hcz21_0
  try clear hcz21_1
  try clear hcz21_10
  try clear hcz21_2
  try clear hcz21_3
  try clear hcz21_4
  try clear hcz21_5
  try clear hcz21_6
  try clear hcz21_7
  try clear hcz21_8
  try clear hcz21_9
  try clear hcz23_0
  try clear hcz23_1
  try clear hcz23_10
  try clear hcz23_2
  try clear hcz23_3
  try clear hcz23_4
  try clear hcz23_5
  try clear hcz23_6
  try clear hcz23_7
  try clear hcz23_8
  try clear hcz23_9
  try clear hcz24_0
  try clear hcz24_1
  try clear hcz24_10
  try clear hcz24_2
  try clear hcz24_3
  try clear hcz24_4
  try clear hcz24_5
  try clear hcz24_6
  try clear hcz24_7
  try clear hcz24_8
  try clear hcz24_9
  try clear hcz26_0
  try clear hcz26_1
  try clear hcz26_10
  try clear hcz26_2
  try clear hcz26_3
  try clear hcz26_4
  try clear hcz26_5
  try clear hcz26_6
  try clear hcz26_7
  try clear hcz26_8
  try clear hcz26_9
  try clear hcz27_0
  try clear hcz27_1
  try clear hcz27_10
  try clear hcz27_2
  try clear hcz27_3
  try clear hcz27_4
  try clear hcz27_5
  try clear hcz27_6
  try clear hcz27_7
  try clear hcz27_8
  try clear hcz27_9
  try clear hcz29_0
  try clear hcz29_1
  try clear hcz29_10
  try clear hcz29_2
  try clear hcz29_3
  try clear hcz29_4
  try clear hcz29_5
  try clear hcz29_6
  try clear hcz29_7
  try clear hcz29_8
  try clear hcz29_9
  try clear hcz30_0
  try clear hcz30_1
  try clear hcz30_10
  try clear hcz30_2
  try clear hcz30_3
  try clear hcz30_4
  try clear hcz30_5
  try clear hcz30_6
  try clear hcz30_7
  try clear hcz30_8
  try clear hcz30_9
  try clear hcz32_0
  try clear hcz32_1
  try clear hcz32_10
  try clear hcz32_2
  try clear hcz32_3
  try clear hcz32_4
  try clear hcz32_5
  try clear hcz32_6
  try clear hcz32_7
  try clear hcz32_8
  try clear hcz32_9
  try clear hcz33_0
  try clear hcz33_1
  try clear hcz33_10
  try clear hcz33_2
  try clear hcz33_3
  try clear hcz33_4
  try clear hcz33_5
  try clear hcz33_6
  try clear hcz33_7
  try clear hcz33_8
  try clear hcz33_9
  try clear hcz35_0
  try clear hcz35_1
  try clear hcz35_10
  try clear hcz35_2
  try clear hcz35_3
  try clear hcz35_4
  try clear hcz35_5
  try clear hcz35_6
  try clear hcz35_7
  try clear hcz35_8
  try clear hcz35_9
  try clear hcz36_0
  try clear hcz36_1
  try clear hcz36_10
  try clear hcz36_2
  try clear hcz36_3
  try clear hcz36_4
  try clear hcz36_5
  try clear hcz36_6
  try clear hcz36_7
  try clear hcz36_8
  try clear hcz36_9
  try clear hcz38_0
  try clear hcz38_1
  try clear hcz38_10
  try clear hcz38_2
  try clear hcz38_3
  try clear hcz38_4
  try clear hcz38_5
  try clear hcz38_6
  try clear hcz38_7
  try clear hcz38_8
  try clear hcz38_9
  try clear hcz39_0
  try clear hcz39_1
  try clear hcz39_10
  try clear hcz39_2
  try clear hcz39_3
  try clear hcz39_4
  try clear hcz39_5
  try clear hcz39_6
  try clear hcz39_7
  try clear hcz39_8
  try clear hcz39_9
  try clear hcz41_0
  try clear hcz41_1
  try clear hcz41_10
  try clear hcz41_2
  try clear hcz41_3
  try clear hcz41_4
  try clear hcz41_5
  try clear hcz41_6
  try clear hcz41_7
  try clear hcz41_8
  try clear hcz41_9
  try clear hcz42_0
  try clear hcz42_1
  try clear hcz42_10
  try clear hcz42_2
  try clear hcz42_3
  try clear hcz42_4
  try clear hcz42_5
  try clear hcz42_6
  try clear hcz42_7
  try clear hcz42_8
  try clear hcz42_9
  try clear hcz44_0
  try clear hcz44_1
  try clear hcz44_10
  try clear hcz44_2
  try clear hcz44_3
  try clear hcz44_4
  try clear hcz44_5
  try clear hcz44_6
  try clear hcz44_7
  try clear hcz44_8
  try clear hcz44_9
  try clear hcz45_0
  try clear hcz45_1
  try clear hcz45_10
  try clear hcz45_2
  try clear hcz45_3
  try clear hcz45_4
  try clear hcz45_5
  try clear hcz45_6
  try clear hcz45_7
  try clear hcz45_8
  try clear hcz45_9
  try clear hcz47_0
  try clear hcz47_1
  try clear hcz47_10
  try clear hcz47_2
  try clear hcz47_3
  try clear hcz47_4
  try clear hcz47_5
  try clear hcz47_6
  try clear hcz47_7
  try clear hcz47_8
  try clear hcz47_9
  try clear hcz48_0
  try clear hcz48_1
  try clear hcz48_10
  try clear hcz48_2
  try clear hcz48_3
  try clear hcz48_4
  try clear hcz48_5
  try clear hcz48_6
  try clear hcz48_7
  try clear hcz48_8
  try clear hcz48_9
  try clear hfz17_0
  try clear hfz17_1
  try clear hfz17_10
  try clear hfz17_2
  try clear hfz17_3
  try clear hfz17_4
  try clear hfz17_5
  try clear hfz17_6
  try clear hfz17_7
  try clear hfz17_8
  try clear hfz17_9
  try clear hfz18_0
  try clear hfz18_1
  try clear hfz18_10
  try clear hfz18_2
  try clear hfz18_3
  try clear hfz18_4
  try clear hfz18_5
  try clear hfz18_6
  try clear hfz18_7
  try clear hfz18_8
  try clear hfz18_9
  try clear hfz20_0
  try clear hfz20_1
  try clear hfz20_10
  try clear hfz20_2
  try clear hfz20_3
  try clear hfz20_4
  try clear hfz20_5
  try clear hfz20_6
  try clear hfz20_7
  try clear hfz20_8
  try clear hfz20_9
  try clear hfz21_0
  try clear hfz21_1
  try clear hfz21_10
  try clear hfz21_2
  try clear hfz21_3
  try clear hfz21_4
  try clear hfz21_5
  try clear hfz21_6
  try clear hfz21_7
  try clear hfz21_8
  try clear hfz21_9
  try clear hfz23_0
  try clear hfz23_1
  try clear hfz23_10
  try clear hfz23_2
  try clear hfz23_3
  try clear hfz23_4
  try clear hfz23_5
  try clear hfz23_6
  try clear hfz23_7
  try clear hfz23_8
  try clear hfz23_9
  try clear hfz24_0
  try clear hfz24_1
  try clear hfz24_10
  try clear hfz24_2
  try clear hfz24_3
  try clear hfz24_4
  try clear hfz24_5
  try clear hfz24_6
  try clear hfz24_7
  try clear hfz24_8
  try clear hfz24_9
  try clear hfz26_0
  try clear hfz26_1
  try clear hfz26_10
  try clear hfz26_2
  try clear hfz26_3
  try clear hfz26_4
  try clear hfz26_5
  try clear hfz26_6
  try clear hfz26_7
  try clear hfz26_8
  try clear hfz26_9
  try clear hfz27_0
  try clear hfz27_1
  try clear hfz27_10
  try clear hfz27_2
  try clear hfz27_3
  try clear hfz27_4
  try clear hfz27_5
  try clear hfz27_6
  try clear hfz27_7
  try clear hfz27_8
  try clear hfz27_9
  try clear hfz29_0
  try clear hfz29_1
  try clear hfz29_10
  try clear hfz29_2
  try clear hfz29_3
  try clear hfz29_4
  try clear hfz29_5
  try clear hfz29_6
  try clear hfz29_7
  try clear hfz29_8
  try clear hfz29_9
  try clear hfz30_0
  try clear hfz30_1
  try clear hfz30_10
  try clear hfz30_2
  try clear hfz30_3
  try clear hfz30_4
  try clear hfz30_5
  try clear hfz30_6
  try clear hfz30_7
  try clear hfz30_8
  try clear hfz30_9
  try clear hfz32_0
  try clear hfz32_1
  try clear hfz32_10
  try clear hfz32_2
  try clear hfz32_3
  try clear hfz32_4
  try clear hfz32_5
  try clear hfz32_6
  try clear hfz32_7
  try clear hfz32_8
  try clear hfz32_9
  try clear hfz33_0
  try clear hfz33_1
  try clear hfz33_10
  try clear hfz33_2
  try clear hfz33_3
  try clear hfz33_4
  try clear hfz33_5
  try clear hfz33_6
  try clear hfz33_7
  try clear hfz33_8
  try clear hfz33_9
  try clear hfz35_0
  try clear hfz35_1
  try clear hfz35_10
  try clear hfz35_2
  try clear hfz35_3
  try clear hfz35_4
  try clear hfz35_5
  try clear hfz35_6
  try clear hfz35_7
  try clear hfz35_8
  try clear hfz35_9
  try clear hfz36_0
  try clear hfz36_1
  try clear hfz36_10
  try clear hfz36_2
  try clear hfz36_3
  try clear hfz36_4
  try clear hfz36_5
  try clear hfz36_6
  try clear hfz36_7
  try clear hfz36_8
  try clear hfz36_9
  try clear hfz38_0
  try clear hfz38_1
  try clear hfz38_10
  try clear hfz38_2
  try clear hfz38_3
  try clear hfz38_4
  try clear hfz38_5
  try clear hfz38_6
  try clear hfz38_7
  try clear hfz38_8
  try clear hfz38_9
  try clear hfz39_0
  try clear hfz39_1
  try clear hfz39_10
  try clear hfz39_2
  try clear hfz39_3
  try clear hfz39_4
  try clear hfz39_5
  try clear hfz39_6
  try clear hfz39_7
  try clear hfz39_8
  try clear hfz39_9
  try clear hfz41_0
  try clear hfz41_1
  try clear hfz41_10
  try clear hfz41_2
  try clear hfz41_3
  try clear hfz41_4
  try clear hfz41_5
  try clear hfz41_6
  try clear hfz41_7
  try clear hfz41_8
  try clear hfz41_9
  try clear hfz42_0
  try clear hfz42_1
  try clear hfz42_10
  try clear hfz42_2
  try clear hfz42_3
  try clear hfz42_4
  try clear hfz42_5
  try clear hfz42_6
  try clear hfz42_7
  try clear hfz42_8
  try clear hfz42_9
  try clear hfz44_0
  try clear hfz44_1
  try clear hfz44_10
  try clear hfz44_2
  try clear hfz44_3
  try clear hfz44_4
  try clear hfz44_5
  try clear hfz44_6
  try clear hfz44_7
  try clear hfz44_8
  try clear hfz44_9
  try clear hfz45_0
  try clear hfz45_1
  try clear hfz45_10
  try clear hfz45_2
  try clear hfz45_3
  try clear hfz45_4
  try clear hfz45_5
  try clear hfz45_6
  try clear hfz45_7
  try clear hfz45_8
  try clear hfz45_9
  try clear hfz47_0
  try clear hfz47_1
  try clear hfz47_10
  try clear hfz47_2
  try clear hfz47_3
  try clear hfz47_4
  try clear hfz47_5
  try clear hfz47_6
  try clear hfz47_7
  try clear hfz47_8
  try clear hfz47_9
  try clear hfz48_0
  try clear hfz48_1
  try clear hfz48_10
  try clear hfz48_2
  try clear hfz48_3
  try clear hfz48_4
  try clear hfz48_5
  try clear hfz48_6
  try clear hfz48_7
  try clear hfz48_8
  try clear hfz48_9
  obtain ⟨kq, x83_2, rfl, HA, HJ2, BK248, BK249, HB⟩ := hcut
  cases kq with
  | zero => exact absurd HA.out (by simp [grapevinemade_SamePacket.j0])
  | succ kj2 =>
   have H := HA.out
   clear HA
   simp only [grapevinemade_SamePacket.j0] at H
   by_cases c49 : x83_2 = true
   ·subst c49
    have H1 : (some false) = some r := by rw [if_pos rfl] at H; exact H
    clear H
    have H := H1
    clear H1
    obtain rfl := Option.some.inj H
    go_wp2
    repeat (go_quiet (fail); try go_wp2)
    go_ret
    exact ⟨by first | rfl | (simp [errW_none, errW_some] <;> rfl) | (simp [*, errW_none, errW_some] <;> rfl), by repeat (first | (with_reducible first | exact HB.out | apply below_alloc | apply pw_below_drewN | apply below_drew1 | refine below_set ?_ GE248.out | refine below_set ?_ GE249.out) | exact HB.out)⟩
   replace c49 := Bool.eq_false_iff.mpr c49
   subst c49
   have H1 : (grapevinemade_SamePacket.l0 kj2 l0_10 (l0_10.length : Int) 0 a1_0 a1_1 a1_2 a1_3 a1_4 a1_5 a1_6 a1_7 a1_8 a1_9 l1_10) = some r := by rw [if_neg (show ¬ (false = true) by decide)] at H; exact H
   clear H
   have H := H1
   clear H1
   have H' := Aside0.mk H
   clear H
   have hnb50 := NB248_249.out
   have hnc50 := NB249_248.out
   have hcz51_0 : wc.cell? ⟨gb248, 0, none⟩ = some (.int .i64 a0_0) := (blk_cell BK248.out 0).trans rfl
   have hcz51_1 : wc.cell? ⟨gb248, 1, none⟩ = some (.int .i64 a0_1) := (blk_cell BK248.out 1).trans rfl
   have hcz51_2 : wc.cell? ⟨gb248, 2, none⟩ = some (.int .i64 a0_2) := (blk_cell BK248.out 2).trans rfl
   have hcz51_3 : wc.cell? ⟨gb248, 3, none⟩ = some (.int .i64 a0_3) := (blk_cell BK248.out 3).trans rfl
   have hcz51_4 : wc.cell? ⟨gb248, 4, none⟩ = some (.int .i64 a0_4) := (blk_cell BK248.out 4).trans rfl
   have hcz51_5 : wc.cell? ⟨gb248, 5, none⟩ = some (.int .u64 a0_5) := (blk_cell BK248.out 5).trans rfl
   have hcz51_6 : wc.cell? ⟨gb248, 6, none⟩ = some (.int .i64 a0_6) := (blk_cell BK248.out 6).trans rfl
   have hcz51_7 : wc.cell? ⟨gb248, 7, none⟩ = some (.int .i64 a0_7) := (blk_cell BK248.out 7).trans rfl
   have hcz51_8 : wc.cell? ⟨gb248, 8, none⟩ = some (.int .i64 a0_8) := (blk_cell BK248.out 8).trans rfl
   have hcz51_9 : wc.cell? ⟨gb248, 9, none⟩ = some (.int .u64 a0_9) := (blk_cell BK248.out 9).trans rfl
   have hcz51_10 : wc.cell? ⟨gb248, 10, none⟩ = some (.slice A0_10 l0_10.length c0_10) := (blk_cell BK248.out 10).trans rfl
   have hfz51_0 := blk_frozen BK248.out 0
   have hfz51_1 := blk_frozen BK248.out 1
   have hfz51_2 := blk_frozen BK248.out 2
   have hfz51_3 := blk_frozen BK248.out 3
   have hfz51_4 := blk_frozen BK248.out 4
   have hfz51_5 := blk_frozen BK248.out 5
   have hfz51_6 := blk_frozen BK248.out 6
   have hfz51_7 := blk_frozen BK248.out 7
   have hfz51_8 := blk_frozen BK248.out 8
   have hfz51_9 := blk_frozen BK248.out 9
   have hfz51_10 := blk_frozen BK248.out 10
   go_wp2
   repeat (go_quiet (fail); try go_wp2)
   go_loopg [87] kj2 (fun kq v87 w' => ∃ (x87_2 : Int), v87 = .int .i64 x87_2 ∧ Aside0 (grapevinemade_SamePacket.l0 kq l0_10 (l0_10.length : Int) x87_2 a1_0 a1_1 a1_2 a1_3 a1_4 a1_5 a1_6 a1_7 a1_8 a1_9 l1_10 = some r) ∧ Aside0 (kq ≤ kj2) ∧ Aside0 (w'.heap[gb248]? = some (.cells #[.int .i64 a0_0, .int .i64 a0_1, .int .i64 a0_2, .int .i64 a0_3, .int .i64 a0_4, .int .u64 a0_5, .int .i64 a0_6, .int .i64 a0_7, .int .i64 a0_8, .int .u64 a0_9, (.slice A0_10 l0_10.length c0_10)] 26 (0, 0))) ∧ Aside0 (w'.heap[gb249]? = some (.cells #[.int .i64 a1_0, .int .i64 a1_1, .int .i64 a1_2, .int .i64 a1_3, .int .i64 a1_4, .int .u64 a1_5, .int .i64 a1_6, .int .i64 a1_7, .int .i64 a1_8, .int .u64 a1_9, (.slice A1_10 l1_10.length c1_10)] 26 (0, 0))) ∧ Aside0 (Below w.heap.size w w'))
   case atStart => exact ⟨(0), (by first | rfl | (simp; done) | (simp [*]; done)), H', ⟨Nat.le_refl _⟩, ⟨by (with_reducible repeat (first | refine blk_drewN ?_ _ | refine blk_drew ?_ | refine blk_alloc ?_ _)); exact BK248.out⟩, ⟨by (with_reducible repeat (first | refine blk_drewN ?_ _ | refine blk_drew ?_ | refine blk_alloc ?_ _)); exact BK249.out⟩, ⟨by repeat (first | (with_reducible first | exact HB.out | apply below_alloc | apply pw_below_drewN | apply below_drew1 | refine below_set ?_ GE248.out | refine below_set ?_ GE249.out) | exact HB.out)⟩⟩
   case round =>
    clear H'
    try clear c1
    try clear c2
    try clear p2
    try clear c3
    try clear c4
    try clear c5
    try clear c6
    try clear c6b0
    try clear c6b1
    try clear c7
    try clear c7b0
    try clear c7b1
    try clear c8
    try clear c8b0
    try clear c8b1
    try clear c9
    try clear c9b0
    try clear c9b1
    try clear c10
    try clear c10b0
    try clear c10b1
    try clear c11
    try clear c11b0
    try clear c11b1
    try clear c12
    try clear c12b0
    try clear c12b1
    try clear c13
    try clear c13b0
    try clear c13b1
    try clear c14
    try clear c14b0
    try clear c14b1
    try clear c15
    try clear c15b0
    try clear c15b1
    try clear c19
    try clear c22
    try clear c25
    try clear c28
    try clear c31
    try clear c34
    try clear c37
    try clear c40
    try clear c43
    try clear c46
    try clear c49
    try clear c50
    try clear hcz17_1
    try clear hcz17_10
    try clear hcz17_2
    try clear hcz17_3
    try clear hcz17_4
    try clear hcz17_5
    try clear hcz17_6
    try clear hcz17_7
    try clear hcz17_8
    try clear hcz17_9
    try clear hcz18_0
    try clear hcz18_1
    try clear hcz18_10
    try clear hcz18_2
    try clear hcz18_3
    try clear hcz18_4
    try clear hcz18_5
    try clear hcz18_6
    try clear hcz18_7
    try clear hcz18_8
    try clear hcz18_9
    try clear hcz20_0
    try clear hcz20_1
    try clear hcz20_10
    try clear hcz20_2
    try clear hcz20_3
    try clear hcz20_4
    try clear hcz20_5
    try clear hcz20_6
    try clear hcz20_7
    try clear hcz20_8
    try clear hcz20_9
    try clear hcz21_0
    try clear hcz21_1
    try clear hcz21_10
    try clear hcz21_2
    try clear hcz21_3
    try clear hcz21_4
    try clear hcz21_5
    try clear hcz21_6
    try clear hcz21_7
    try clear hcz21_8
    try clear hcz21_9
    try clear hcz23_0
    try clear hcz23_1
    try clear hcz23_10
    try clear hcz23_2
    try clear hcz23_3
    try clear hcz23_4
    try clear hcz23_5
    try clear hcz23_6
    try clear hcz23_7
    try clear hcz23_8
    try clear hcz23_9
    try clear hcz24_0
    try clear hcz24_1
    try clear hcz24_10
    try clear hcz24_2
    try clear hcz24_3
    try clear hcz24_4
    try clear hcz24_5
    try clear hcz24_6
    try clear hcz24_7
    try clear hcz24_8
    try clear hcz24_9
    try clear hcz26_0
    try clear hcz26_1
    try clear hcz26_10
    try clear hcz26_2
    try clear hcz26_3
    try clear hcz26_4
    try clear hcz26_5
    try clear hcz26_6
    try clear hcz26_7
    try clear hcz26_8
    try clear hcz26_9
    try clear hcz27_0
    try clear hcz27_1
    try clear hcz27_10
    try clear hcz27_2
    try clear hcz27_3
    try clear hcz27_4
    try clear hcz27_5
    try clear hcz27_6
    try clear hcz27_7
    try clear hcz27_8
    try clear hcz27_9
    try clear hcz29_0
    try clear hcz29_1
    try clear hcz29_10
    try clear hcz29_2
    try clear hcz29_3
    try clear hcz29_4
    try clear hcz29_5
    try clear hcz29_6
    try clear hcz29_7
    try clear hcz29_8
    try clear hcz29_9
    try clear hcz30_0
    try clear hcz30_1
    try clear hcz30_10
    try clear hcz30_2
    try clear hcz30_3
    try clear hcz30_4
    try clear hcz30_5
    try clear hcz30_6
    try clear hcz30_7
    try clear hcz30_8
    try clear hcz30_9
    try clear hcz32_0
    try clear hcz32_1
    try clear hcz32_10
    try clear hcz32_2
    try clear hcz32_3
    try clear hcz32_4
    try clear hcz32_5
    try clear hcz32_6
    try clear hcz32_7
    try clear hcz32_8
    try clear hcz32_9
    try clear hcz33_0
    try clear hcz33_1
    try clear hcz33_10
    try clear hcz33_2
    try clear hcz33_3
    try clear hcz33_4
    try clear hcz33_5
    try clear hcz33_6
    try clear hcz33_7
    try clear hcz33_8
    try clear hcz33_9
    try clear hcz35_0
    try clear hcz35_1
    try clear hcz35_10
    try clear hcz35_2
    try clear hcz35_3
    try clear hcz35_4
    try clear hcz35_5
    try clear hcz35_6
    try clear hcz35_7
    try clear hcz35_8
    try clear hcz35_9
    try clear hcz36_0
    try clear hcz36_1
    try clear hcz36_10
    try clear hcz36_2
    try clear hcz36_3
    try clear hcz36_4
    try clear hcz36_5
    try clear hcz36_6
    try clear hcz36_7
    try clear hcz36_8
    try clear hcz36_9
    try clear hcz38_0
    try clear hcz38_1
    try clear hcz38_10
    try clear hcz38_2
    try clear hcz38_3
    try clear hcz38_4
    try clear hcz38_5
    try clear hcz38_6
    try clear hcz38_7
    try clear hcz38_8
    try clear hcz38_9
    try clear hcz39_0
    try clear hcz39_1
    try clear hcz39_10
    try clear hcz39_2
    try clear hcz39_3
    try clear hcz39_4
    try clear hcz39_5
    try clear hcz39_6
    try clear hcz39_7
    try clear hcz39_8
    try clear hcz39_9
    try clear hcz41_0
    try clear hcz41_1
    try clear hcz41_10
    try clear hcz41_2
    try clear hcz41_3
    try clear hcz41_4
    try clear hcz41_5
    try clear hcz41_6
    try clear hcz41_7
    try clear hcz41_8
    try clear hcz41_9
    try clear hcz42_0
    try clear hcz42_1
    try clear hcz42_10
    try clear hcz42_2
    try clear hcz42_3
    try clear hcz42_4
    try clear hcz42_5
    try clear hcz42_6
    try clear hcz42_7
    try clear hcz42_8
    try clear hcz42_9
    try clear hcz44_0
    try clear hcz44_1
    try clear hcz44_10
    try clear hcz44_2
    try clear hcz44_3
    try clear hcz44_4
    try clear hcz44_5
    try clear hcz44_6
    try clear hcz44_7
    try clear hcz44_8
    try clear hcz44_9
    try clear hcz45_0
    try clear hcz45_1
    try clear hcz45_10
    try clear hcz45_2
    try clear hcz45_3
    try clear hcz45_4
    try clear hcz45_5
    try clear hcz45_6
    try clear hcz45_7
    try clear hcz45_8
    try clear hcz45_9
    try clear hcz47_0
    try clear hcz47_1
    try clear hcz47_10
    try clear hcz47_2
    try clear hcz47_3
    try clear hcz47_4
    try clear hcz47_5
    try clear hcz47_6
    try clear hcz47_7
    try clear hcz47_8
    try clear hcz47_9
    try clear hcz48_0
    try clear hcz48_1
    try clear hcz48_10
    try clear hcz48_2
    try clear hcz48_3
    try clear hcz48_4
    try clear hcz48_5
    try clear hcz48_6
    try clear hcz48_7
    try clear hcz48_8
    try clear hcz48_9
    try clear hcz51_0
    try clear hcz51_1
    try clear hcz51_10
    try clear hcz51_2
    try clear hcz51_3
    try clear hcz51_4
    try clear hcz51_5
    try clear hcz51_6
    try clear hcz51_7
    try clear hcz51_8
    try clear hcz51_9
    try clear hfz17_0
    try clear hfz17_1
    try clear hfz17_10
    try clear hfz17_2
    try clear hfz17_3
    try clear hfz17_4
    try clear hfz17_5
    try clear hfz17_6
    try clear hfz17_7
    try clear hfz17_8
    try clear hfz17_9
    try clear hfz18_0
    try clear hfz18_1
    try clear hfz18_10
    try clear hfz18_2
    try clear hfz18_3
    try clear hfz18_4
    try clear hfz18_5
    try clear hfz18_6
    try clear hfz18_7
    try clear hfz18_8
    try clear hfz18_9
    try clear hfz20_0
    try clear hfz20_1
    try clear hfz20_10
    try clear hfz20_2
    try clear hfz20_3
    try clear hfz20_4
    try clear hfz20_5
    try clear hfz20_6
    try clear hfz20_7
    try clear hfz20_8
    try clear hfz20_9
    try clear hfz21_0
    try clear hfz21_1
    try clear hfz21_10
    try clear hfz21_2
    try clear hfz21_3
    try clear hfz21_4
    try clear hfz21_5
    try clear hfz21_6
    try clear hfz21_7
    try clear hfz21_8
    try clear hfz21_9
    try clear hfz23_0
    try clear hfz23_1
    try clear hfz23_10
    try clear hfz23_2
    try clear hfz23_3
    try clear hfz23_4
    try clear hfz23_5
    try clear hfz23_6
    try clear hfz23_7
    try clear hfz23_8
    try clear hfz23_9
    try clear hfz24_0
    try clear hfz24_1
    try clear hfz24_10
    try clear hfz24_2
    try clear hfz24_3
    try clear hfz24_4
    try clear hfz24_5
    try clear hfz24_6
    try clear hfz24_7
    try clear hfz24_8
    try clear hfz24_9
    try clear hfz26_0
    try clear hfz26_1
    try clear hfz26_10
    try clear hfz26_2
    try clear hfz26_3
    try clear hfz26_4
    try clear hfz26_5
    try clear hfz26_6
    try clear hfz26_7
    try clear hfz26_8
    try clear hfz26_9
    try clear hfz27_0
    try clear hfz27_1
    try clear hfz27_10
    try clear hfz27_2
    try clear hfz27_3
    try clear hfz27_4
    try clear hfz27_5
    try clear hfz27_6
    try clear hfz27_7
    try clear hfz27_8
    try clear hfz27_9
    try clear hfz29_0
    try clear hfz29_1
    try clear hfz29_10
    try clear hfz29_2
    try clear hfz29_3
    try clear hfz29_4
    try clear hfz29_5
    try clear hfz29_6
    try clear hfz29_7
    try clear hfz29_8
    try clear hfz29_9
    try clear hfz30_0
    try clear hfz30_1
    try clear hfz30_10
    try clear hfz30_2
    try clear hfz30_3
    try clear hfz30_4
    try clear hfz30_5
    try clear hfz30_6
    try clear hfz30_7
    try clear hfz30_8
    try clear hfz30_9
    try clear hfz32_0
    try clear hfz32_1
    try clear hfz32_10
    try clear hfz32_2
    try clear hfz32_3
    try clear hfz32_4
    try clear hfz32_5
    try clear hfz32_6
    try clear hfz32_7
    try clear hfz32_8
    try clear hfz32_9
    try clear hfz33_0
    try clear hfz33_1
    try clear hfz33_10
    try clear hfz33_2
    try clear hfz33_3
    try clear hfz33_4
    try clear hfz33_5
    try clear hfz33_6
    try clear hfz33_7
    try clear hfz33_8
    try clear hfz33_9
    try clear hfz35_0
    try clear hfz35_1
    try clear hfz35_10
    try clear hfz35_2
    try clear hfz35_3
    try clear hfz35_4
    try clear hfz35_5
    try clear hfz35_6
    try clear hfz35_7
    try clear hfz35_8
    try clear hfz35_9
    try clear hfz36_0
    try clear hfz36_1
    try clear hfz36_10
    try clear hfz36_2
    try clear hfz36_3
    try clear hfz36_4
    try clear hfz36_5
    try clear hfz36_6
    try clear hfz36_7
    try clear hfz36_8
    try clear hfz36_9
    try clear hfz38_0
    try clear hfz38_1
    try clear hfz38_10
    try clear hfz38_2
    try clear hfz38_3
    try clear hfz38_4
    try clear hfz38_5
    try clear hfz38_6
    try clear hfz38_7
    try clear hfz38_8
    try clear hfz38_9
    try clear hfz39_0
    try clear hfz39_1
    try clear hfz39_10
    try clear hfz39_2
    try clear hfz39_3
    try clear hfz39_4
    try clear hfz39_5
    try clear hfz39_6
    try clear hfz39_7
    try clear hfz39_8
    try clear hfz39_9
    try clear hfz41_0
    try clear hfz41_1
    try clear hfz41_10
    try clear hfz41_2
    try clear hfz41_3
    try clear hfz41_4
    try clear hfz41_5
    try clear hfz41_6
    try clear hfz41_7
    try clear hfz41_8
    try clear hfz41_9
    try clear hfz42_0
    try clear hfz42_1
    try clear hfz42_10
    try clear hfz42_2
    try clear hfz42_3
    try clear hfz42_4
    try clear hfz42_5
    try clear hfz42_6
    try clear hfz42_7
    try clear hfz42_8
    try clear hfz42_9
    try clear hfz44_0
    try clear hfz44_1
    try clear hfz44_10
    try clear hfz44_2
    try clear hfz44_3
    try clear hfz44_4
    try clear hfz44_5
    try clear hfz44_6
    try clear hfz44_7
    try clear hfz44_8
    try clear hfz44_9
    try clear hfz45_0
    try clear hfz45_1
    try clear hfz45_10
    try clear hfz45_2
    try clear hfz45_3
    try clear hfz45_4
    try clear hfz45_5
    try clear hfz45_6
    try clear hfz45_7
    try clear hfz45_8
    try clear hfz45_9
    try clear hfz47_0
    try clear hfz47_1
    try clear hfz47_10
    try clear hfz47_2
    try clear hfz47_3
    try clear hfz47_4
    try clear hfz47_5
    try clear hfz47_6
    try clear hfz47_7
    try clear hfz47_8
    try clear hfz47_9
    try clear hfz48_0
    try clear hfz48_1
    try clear hfz48_10
    try clear hfz48_2
    try clear hfz48_3
    try clear hfz48_4
    try clear hfz48_5
    try clear hfz48_6
    try clear hfz48_7
    try clear hfz48_8
    try clear hfz48_9
    try clear hfz51_0
    try clear hfz51_1
    try clear hfz51_10
    try clear hfz51_2
    try clear hfz51_3
    try clear hfz51_4
    try clear hfz51_5
    try clear hfz51_6
    try clear hfz51_7
    try clear hfz51_8
    try clear hfz51_9
    try clear p2
    obtain ⟨x87_2, rfl, HA, HK2, BK248, BK249, HB⟩ := hrel
    cases gk with
    | zero => exact absurd HA.out (by simp [grapevinemade_SamePacket.l0])
    | succ k2 =>
     have H := HA.out
     clear HA
     simp only [grapevinemade_SamePacket.l0] at H
     by_cases c52 : x87_2 < (l0_10.length : Int)
     rotate_left
     ·rw [if_neg c52] at H
      have c52b0 : decide (x87_2 < (l0_10.length : Int)) = false := decide_eq_false c52
      clear c52
      obtain rfl := Option.some.inj H
      go_wp2
      repeat (go_quiet (fail); try go_wp2)
      go_ret
      exact ⟨by first | rfl | (simp [errW_none, errW_some] <;> rfl) | (simp [*, errW_none, errW_some] <;> rfl), by repeat (first | (with_reducible first | exact HB.out | apply below_alloc | apply pw_below_drewN | apply below_drew1 | refine below_set ?_ GE248.out | refine below_set ?_ GE249.out) | exact HB.out)⟩
     rw [if_pos c52] at H
     have c52b0 : decide (x87_2 < (l0_10.length : Int)) = true := decide_eq_true c52
     clear c52
     by_cases c53 : 0 ≤ x87_2
     rotate_left
     ·rw [if_neg c53] at H
      exact absurd H (by simp)
     rw [if_pos c53] at H
     have c53b0 : decide (0 ≤ x87_2) = true := decide_eq_true c53
     clear c53
     by_cases c54 : x87_2 < (l0_10.length : Int)
     rotate_left
     ·rw [if_neg c54] at H
      exact absurd H (by simp)
     rw [if_pos c54] at H
     have c54b0 : decide (x87_2 < (l0_10.length : Int)) = true := decide_eq_true c54
     clear c54
     by_cases c55 : x87_2 < (l1_10.length : Int)
     rotate_left
     ·rw [if_neg c55] at H
      exact absurd H (by simp)
     rw [if_pos c55] at H
     have c55b0 : decide (x87_2 < (l1_10.length : Int)) = true := decide_eq_true c55
     clear c55
     by_cases c56 : (!(((rd_T48 l0_10 x87_2).f0) == ((rd_T48 l1_10 x87_2).f0)) || (!(((rd_T48 l0_10 x87_2).f1) == ((rd_T48 l1_10 x87_2).f1)))) = true
     ·rw [if_pos c56] at H
      have c56b0 : (!(((rd_T48 l0_10 x87_2).f0) == ((rd_T48 l1_10 x87_2).f0)) || (!(((rd_T48 l0_10 x87_2).f1) == ((rd_T48 l1_10 x87_2).f1)))) = true := c56
      clear c56
      obtain rfl := Option.some.inj H
      have p250 : 0 ≤ (x87_2 : Int) := of_decide_eq_true (by first | (with_reducible assumption) | assumption)
      have q250 : x87_2 < (l0_10.length : Int) := of_decide_eq_true (by first | (with_reducible assumption) | assumption)
      obtain ⟨ad250, e250, hx250_0, hx250_1⟩ := at_T48 HR0_10.out x87_2 p250 q250
      cases e250
      replace hx250_0 := (HB.out.cell (World.block_lt_of_cell? w _ hx250_0)).trans hx250_0
      replace hx250_1 := (HB.out.cell (World.block_lt_of_cell? w _ hx250_1)).trans hx250_1
      replace p250 := eq_true p250
      replace q250 := eq_true q250
      go_wp2_with (first | ((with_reducible refine gate_dst (N := 6) rfl ?_); (try (refine gate_guard (by rfl) ?_; dsimp only)); refine box_event ?hg (N := 6) ?hd (cs := #[.int .i64 0, .int .i64 0]) (t := 48) ?hr ?_; (case hd => rfl); (case hg => rfl); (case hr => first | (go_simp; done) | (go_simp; rfl)); intro gb251 hg w57 hbox hb; have n0_ := Aside0.mk (blk_below (g := gb248) (o := .cells #[.int .i64 a0_0, .int .i64 a0_1, .int .i64 a0_2, .int .i64 a0_3, .int .i64 a0_4, .int .u64 a0_5, .int .i64 a0_6, .int .i64 a0_7, .int .i64 a0_8, .int .u64 a0_9, .slice (some ad250) l0_10.length c0_10] 26 (0, 0)) (by (with_reducible repeat (first | refine blk_drewN ?_ _ | refine blk_drew ?_ | refine blk_alloc ?_ _)); exact BK248.out) hb); have n1_ := Aside0.mk (blk_below (g := gb249) (o := .cells #[.int .i64 a1_0, .int .i64 a1_1, .int .i64 a1_2, .int .i64 a1_3, .int .i64 a1_4, .int .u64 a1_5, .int .i64 a1_6, .int .i64 a1_7, .int .i64 a1_8, .int .u64 a1_9, .slice A1_10 l1_10.length c1_10] 26 (0, 0)) (by (with_reducible repeat (first | refine blk_drewN ?_ _ | refine blk_drew ?_ | refine blk_alloc ?_ _)); exact BK249.out) hb); have n2_ := Aside0.mk (below_step (by repeat (first | (with_reducible first | exact HB.out | apply below_alloc | apply pw_below_drewN | apply below_drew1 | refine below_set ?_ GE248.out | refine below_set ?_ GE249.out) | exact HB.out)) hb); have n3_ := Aside0.mk (hbox); have n4_ := Aside0.mk ((by rw [hg]; exact (below_size (by repeat (first | (with_reducible first | exact HB.out | apply below_alloc | apply pw_below_drewN | apply below_drew1 | refine below_set ?_ GE248.out | refine below_set ?_ GE249.out) | exact HB.out))) : w.heap.size ≤ gb251)); have n5_ := Aside0.mk ((by rw [hg]; exact (below_size (by repeat (first | (with_reducible first | exact HB.out | apply below_alloc | apply pw_below_drewN | apply below_drew1 | refine below_set ?_ GE248.out | refine below_set ?_ GE249.out) | exact HB.out))) : w.heap.size ≤ gb251)); have n6_ := Aside0.mk ((by rw [hg]; exact Nat.ne_of_lt (blk_lt (g := gb248) (o := .cells #[.int .i64 a0_0, .int .i64 a0_1, .int .i64 a0_2, .int .i64 a0_3, .int .i64 a0_4, .int .u64 a0_5, .int .i64 a0_6, .int .i64 a0_7, .int .i64 a0_8, .int .u64 a0_9, .slice (some ad250) l0_10.length c0_10] 26 (0, 0)) (by (with_reducible repeat (first | refine blk_drewN ?_ _ | refine blk_drew ?_ | refine blk_alloc ?_ _)); exact BK248.out)) : gb248 ≠ gb251)); have n7_ := Aside0.mk ((by rw [hg]; exact Nat.ne_of_gt (blk_lt (g := gb248) (o := .cells #[.int .i64 a0_0, .int .i64 a0_1, .int .i64 a0_2, .int .i64 a0_3, .int .i64 a0_4, .int .u64 a0_5, .int .i64 a0_6, .int .i64 a0_7, .int .i64 a0_8, .int .u64 a0_9, .slice (some ad250) l0_10.length c0_10] 26 (0, 0)) (by (with_reducible repeat (first | refine blk_drewN ?_ _ | refine blk_drew ?_ | refine blk_alloc ?_ _)); exact BK248.out)) : gb251 ≠ gb248)); have n8_ := Aside0.mk ((by rw [hg]; exact Nat.ne_of_lt (blk_lt (g := gb249) (o := .cells #[.int .i64 a1_0, .int .i64 a1_1, .int .i64 a1_2, .int .i64 a1_3, .int .i64 a1_4, .int .u64 a1_5, .int .i64 a1_6, .int .i64 a1_7, .int .i64 a1_8, .int .u64 a1_9, .slice A1_10 l1_10.length c1_10] 26 (0, 0)) (by (with_reducible repeat (first | refine blk_drewN ?_ _ | refine blk_drew ?_ | refine blk_alloc ?_ _)); exact BK249.out)) : gb249 ≠ gb251)); have n9_ := Aside0.mk ((by rw [hg]; exact Nat.ne_of_gt (blk_lt (g := gb249) (o := .cells #[.int .i64 a1_0, .int .i64 a1_1, .int .i64 a1_2, .int .i64 a1_3, .int .i64 a1_4, .int .u64 a1_5, .int .i64 a1_6, .int .i64 a1_7, .int .i64 a1_8, .int .u64 a1_9, .slice A1_10 l1_10.length c1_10] 26 (0, 0)) (by (with_reducible repeat (first | refine blk_drewN ?_ _ | refine blk_drew ?_ | refine blk_alloc ?_ _)); exact BK249.out)) : gb251 ≠ gb249)); clear BK248; clear BK249; clear HB; have BK248 := n0_; have BK249 := n1_; have HB := n2_; have BK251 := n3_; have GW251 := n4_; have GE251 := n5_; have NB248_251 := n6_; have NB251_248 := n7_; have NB249_251 := n8_; have NB251_249 := n9_; clear n0_ n1_ n2_ n3_ n4_ n5_ n6_ n7_ n8_ n9_; clear hb hbox hg; have hnb58 := NB251_248.out; have hnc58 := NB248_251.out; have hnb59 := NB251_249.out; have hnc59 := NB249_251.out; have hcz60_0 : w57.cell? ⟨gb251, 0, none⟩ = some (.int .i64 0) := (blk_cell BK251.out 0).trans rfl; have hcz60_1 : w57.cell? ⟨gb251, 1, none⟩ = some (.int .i64 0) := (blk_cell BK251.out 1).trans rfl; have hfz60_0 := blk_frozen BK251.out 0; have hfz60_1 := blk_frozen BK251.out 1; have hnb61 := NB249_248.out; have hnc61 := NB248_249.out; have hcz62_0 : w57.cell? ⟨gb249, 0, none⟩ = some (.int .i64 a1_0) := (blk_cell BK249.out 0).trans rfl; have hcz62_1 : w57.cell? ⟨gb249, 1, none⟩ = some (.int .i64 a1_1) := (blk_cell BK249.out 1).trans rfl; have hcz62_2 : w57.cell? ⟨gb249, 2, none⟩ = some (.int .i64 a1_2) := (blk_cell BK249.out 2).trans rfl; have hcz62_3 : w57.cell? ⟨gb249, 3, none⟩ = some (.int .i64 a1_3) := (blk_cell BK249.out 3).trans rfl; have hcz62_4 : w57.cell? ⟨gb249, 4, none⟩ = some (.int .i64 a1_4) := (blk_cell BK249.out 4).trans rfl; have hcz62_5 : w57.cell? ⟨gb249, 5, none⟩ = some (.int .u64 a1_5) := (blk_cell BK249.out 5).trans rfl; have hcz62_6 : w57.cell? ⟨gb249, 6, none⟩ = some (.int .i64 a1_6) := (blk_cell BK249.out 6).trans rfl; have hcz62_7 : w57.cell? ⟨gb249, 7, none⟩ = some (.int .i64 a1_7) := (blk_cell BK249.out 7).trans rfl; have hcz62_8 : w57.cell? ⟨gb249, 8, none⟩ = some (.int .i64 a1_8) := (blk_cell BK249.out 8).trans rfl; have hcz62_9 : w57.cell? ⟨gb249, 9, none⟩ = some (.int .u64 a1_9) := (blk_cell BK249.out 9).trans rfl; have hcz62_10 : w57.cell? ⟨gb249, 10, none⟩ = some (.slice A1_10 l1_10.length c1_10) := (blk_cell BK249.out 10).trans rfl; have hfz62_0 := blk_frozen BK249.out 0; have hfz62_1 := blk_frozen BK249.out 1; have hfz62_2 := blk_frozen BK249.out 2; have hfz62_3 := blk_frozen BK249.out 3; have hfz62_4 := blk_frozen BK249.out 4; have hfz62_5 := blk_frozen BK249.out 5; have hfz62_6 := blk_frozen BK249.out 6; have hfz62_7 := blk_frozen BK249.out 7; have hfz62_8 := blk_frozen BK249.out 8; have hfz62_9 := blk_frozen BK249.out 9; have hfz62_10 := blk_frozen BK249.out 10; have p252 : 0 ≤ (x87_2 : Int) := of_decide_eq_true (by first | (with_reducible assumption) | assumption); have q252 : x87_2 < (l1_10.length : Int) := of_decide_eq_true (by first | (with_reducible assumption) | assumption); obtain ⟨ad252, e252, hx252_0, hx252_1⟩ := at_T48 HR1_10.out x87_2 p252 q252; cases e252; have hn252_0 : ad252.block ≠ gb251 := Nat.ne_of_lt (Nat.lt_of_lt_of_le (by have := World.block_lt_of_cell? _ _ hx252_0; first | rwa [add_block] at this | exact this) GW251.out); have hn252_1 : ad252.block ≠ gb251 := Nat.ne_of_lt (Nat.lt_of_lt_of_le (by have := World.block_lt_of_cell? _ _ hx252_0; first | rwa [add_block] at this | exact this) GW251.out); replace hx252_0 := (HB.out.cell (World.block_lt_of_cell? w _ hx252_0)).trans hx252_0; replace hx252_1 := (HB.out.cell (World.block_lt_of_cell? w _ hx252_1)).trans hx252_1; replace hx252_0 := (cell_far (p := ⟨gb251, 0, none⟩) (by first | exact hn252_0 | (simp only [add_block]; exact hn252_0)) (.int .i64 ((rd_T48 l0_10 x87_2).f0))).trans hx252_0; replace hx252_1 := (cell_far (p := ⟨gb251, 0, none⟩) (by first | exact hn252_0 | (simp only [add_block]; exact hn252_0)) (.int .i64 ((rd_T48 l0_10 x87_2).f0))).trans hx252_1; replace hx252_0 := (cell_far (p := ⟨gb251, 1, none⟩) (by first | exact hn252_1 | (simp only [add_block]; exact hn252_1)) (.int .i64 ((rd_T48 l0_10 x87_2).f1))).trans hx252_0; replace hx252_1 := (cell_far (p := ⟨gb251, 1, none⟩) (by first | exact hn252_1 | (simp only [add_block]; exact hn252_1)) (.int .i64 ((rd_T48 l0_10 x87_2).f1))).trans hx252_1; (try have hy252_0 := fun (n_ : Nat) => (show ((((w57.drewN n_).setCell ⟨gb251, 0, none⟩ (.int .i64 ((rd_T48 l0_10 x87_2).f0))).setCell ⟨gb251, 1, none⟩ (.int .i64 ((rd_T48 l0_10 x87_2).f1)))).cell? _ = some _ from hx252_0)); (try have hy252_1 := fun (n_ : Nat) => (show ((((w57.drewN n_).setCell ⟨gb251, 0, none⟩ (.int .i64 ((rd_T48 l0_10 x87_2).f0))).setCell ⟨gb251, 1, none⟩ (.int .i64 ((rd_T48 l0_10 x87_2).f1)))).cell? _ = some _ from hx252_1)); clear hn252_0; clear hn252_1; replace p252 := eq_true p252; replace q252 := eq_true q252))
      repeat (go_quiet (fail); try go_wp2)
      go_ret
      exact ⟨by first | rfl | (simp [errW_none, errW_some] <;> rfl) | (simp [*, errW_none, errW_some] <;> rfl), by repeat (first | (with_reducible first | exact HB.out | apply below_alloc | apply pw_below_drewN | apply below_drew1 | refine below_set ?_ GE248.out | refine below_set ?_ GE249.out | refine below_set ?_ GE251.out) | exact HB.out)⟩
     rw [if_neg c56] at H
     have c56b0 : (!(((rd_T48 l0_10 x87_2).f0) == ((rd_T48 l1_10 x87_2).f0)) || (!(((rd_T48 l0_10 x87_2).f1) == ((rd_T48 l1_10 x87_2).f1)))) = false := by simpa using c56
     clear c56
     have H' := Aside0.mk H
     clear H
     have p250 : 0 ≤ (x87_2 : Int) := of_decide_eq_true (by first | (with_reducible assumption) | assumption)
     have q250 : x87_2 < (l0_10.length : Int) := of_decide_eq_true (by first | (with_reducible assumption) | assumption)
     obtain ⟨ad250, e250, hx250_0, hx250_1⟩ := at_T48 HR0_10.out x87_2 p250 q250
     cases e250
     replace hx250_0 := (HB.out.cell (World.block_lt_of_cell? w _ hx250_0)).trans hx250_0
     replace hx250_1 := (HB.out.cell (World.block_lt_of_cell? w _ hx250_1)).trans hx250_1
     replace p250 := eq_true p250
     replace q250 := eq_true q250
     go_wp2_with (first | ((with_reducible refine gate_dst (N := 6) rfl ?_); (try (refine gate_guard (by rfl) ?_; dsimp only)); refine box_event ?hg (N := 6) ?hd (cs := #[.int .i64 0, .int .i64 0]) (t := 48) ?hr ?_; (case hd => rfl); (case hg => rfl); (case hr => first | (go_simp; done) | (go_simp; rfl)); intro gb251 hg w63 hbox hb; have n0_ := Aside0.mk (blk_below (g := gb248) (o := .cells #[.int .i64 a0_0, .int .i64 a0_1, .int .i64 a0_2, .int .i64 a0_3, .int .i64 a0_4, .int .u64 a0_5, .int .i64 a0_6, .int .i64 a0_7, .int .i64 a0_8, .int .u64 a0_9, .slice (some ad250) l0_10.length c0_10] 26 (0, 0)) (by (with_reducible repeat (first | refine blk_drewN ?_ _ | refine blk_drew ?_ | refine blk_alloc ?_ _)); exact BK248.out) hb); have n1_ := Aside0.mk (blk_below (g := gb249) (o := .cells #[.int .i64 a1_0, .int .i64 a1_1, .int .i64 a1_2, .int .i64 a1_3, .int .i64 a1_4, .int .u64 a1_5, .int .i64 a1_6, .int .i64 a1_7, .int .i64 a1_8, .int .u64 a1_9, .slice A1_10 l1_10.length c1_10] 26 (0, 0)) (by (with_reducible repeat (first | refine blk_drewN ?_ _ | refine blk_drew ?_ | refine blk_alloc ?_ _)); exact BK249.out) hb); have n2_ := Aside0.mk (below_step (by repeat (first | (with_reducible first | exact HB.out | apply below_alloc | apply pw_below_drewN | apply below_drew1 | refine below_set ?_ GE248.out | refine below_set ?_ GE249.out) | exact HB.out)) hb); have n3_ := Aside0.mk (hbox); have n4_ := Aside0.mk ((by rw [hg]; exact (below_size (by repeat (first | (with_reducible first | exact HB.out | apply below_alloc | apply pw_below_drewN | apply below_drew1 | refine below_set ?_ GE248.out | refine below_set ?_ GE249.out) | exact HB.out))) : w.heap.size ≤ gb251)); have n5_ := Aside0.mk ((by rw [hg]; exact (below_size (by repeat (first | (with_reducible first | exact HB.out | apply below_alloc | apply pw_below_drewN | apply below_drew1 | refine below_set ?_ GE248.out | refine below_set ?_ GE249.out) | exact HB.out))) : w.heap.size ≤ gb251)); have n6_ := Aside0.mk ((by rw [hg]; exact Nat.ne_of_lt (blk_lt (g := gb248) (o := .cells #[.int .i64 a0_0, .int .i64 a0_1, .int .i64 a0_2, .int .i64 a0_3, .int .i64 a0_4, .int .u64 a0_5, .int .i64 a0_6, .int .i64 a0_7, .int .i64 a0_8, .int .u64 a0_9, .slice (some ad250) l0_10.length c0_10] 26 (0, 0)) (by (with_reducible repeat (first | refine blk_drewN ?_ _ | refine blk_drew ?_ | refine blk_alloc ?_ _)); exact BK248.out)) : gb248 ≠ gb251)); have n7_ := Aside0.mk ((by rw [hg]; exact Nat.ne_of_gt (blk_lt (g := gb248) (o := .cells #[.int .i64 a0_0, .int .i64 a0_1, .int .i64 a0_2, .int .i64 a0_3, .int .i64 a0_4, .int .u64 a0_5, .int .i64 a0_6, .int .i64 a0_7, .int .i64 a0_8, .int .u64 a0_9, .slice (some ad250) l0_10.length c0_10] 26 (0, 0)) (by (with_reducible repeat (first | refine blk_drewN ?_ _ | refine blk_drew ?_ | refine blk_alloc ?_ _)); exact BK248.out)) : gb251 ≠ gb248)); have n8_ := Aside0.mk ((by rw [hg]; exact Nat.ne_of_lt (blk_lt (g := gb249) (o := .cells #[.int .i64 a1_0, .int .i64 a1_1, .int .i64 a1_2, .int .i64 a1_3, .int .i64 a1_4, .int .u64 a1_5, .int .i64 a1_6, .int .i64 a1_7, .int .i64 a1_8, .int .u64 a1_9, .slice A1_10 l1_10.length c1_10] 26 (0, 0)) (by (with_reducible repeat (first | refine blk_drewN ?_ _ | refine blk_drew ?_ | refine blk_alloc ?_ _)); exact BK249.out)) : gb249 ≠ gb251)); have n9_ := Aside0.mk ((by rw [hg]; exact Nat.ne_of_gt (blk_lt (g := gb249) (o := .cells #[.int .i64 a1_0, .int .i64 a1_1, .int .i64 a1_2, .int .i64 a1_3, .int .i64 a1_4, .int .u64 a1_5, .int .i64 a1_6, .int .i64 a1_7, .int .i64 a1_8, .int .u64 a1_9, .slice A1_10 l1_10.length c1_10] 26 (0, 0)) (by (with_reducible repeat (first | refine blk_drewN ?_ _ | refine blk_drew ?_ | refine blk_alloc ?_ _)); exact BK249.out)) : gb251 ≠ gb249)); clear BK248; clear BK249; clear HB; have BK248 := n0_; have BK249 := n1_; have HB := n2_; have BK251 := n3_; have GW251 := n4_; have GE251 := n5_; have NB248_251 := n6_; have NB251_248 := n7_; have NB249_251 := n8_; have NB251_249 := n9_; clear n0_ n1_ n2_ n3_ n4_ n5_ n6_ n7_ n8_ n9_; clear hb hbox hg; have hnb64 := NB251_248.out; have hnc64 := NB248_251.out; have hnb65 := NB251_249.out; have hnc65 := NB249_251.out; have hcz66_0 : w63.cell? ⟨gb251, 0, none⟩ = some (.int .i64 0) := (blk_cell BK251.out 0).trans rfl; have hcz66_1 : w63.cell? ⟨gb251, 1, none⟩ = some (.int .i64 0) := (blk_cell BK251.out 1).trans rfl; have hfz66_0 := blk_frozen BK251.out 0; have hfz66_1 := blk_frozen BK251.out 1; have hnb67 := NB249_248.out; have hnc67 := NB248_249.out; have hcz68_0 : w63.cell? ⟨gb249, 0, none⟩ = some (.int .i64 a1_0) := (blk_cell BK249.out 0).trans rfl; have hcz68_1 : w63.cell? ⟨gb249, 1, none⟩ = some (.int .i64 a1_1) := (blk_cell BK249.out 1).trans rfl; have hcz68_2 : w63.cell? ⟨gb249, 2, none⟩ = some (.int .i64 a1_2) := (blk_cell BK249.out 2).trans rfl; have hcz68_3 : w63.cell? ⟨gb249, 3, none⟩ = some (.int .i64 a1_3) := (blk_cell BK249.out 3).trans rfl; have hcz68_4 : w63.cell? ⟨gb249, 4, none⟩ = some (.int .i64 a1_4) := (blk_cell BK249.out 4).trans rfl; have hcz68_5 : w63.cell? ⟨gb249, 5, none⟩ = some (.int .u64 a1_5) := (blk_cell BK249.out 5).trans rfl; have hcz68_6 : w63.cell? ⟨gb249, 6, none⟩ = some (.int .i64 a1_6) := (blk_cell BK249.out 6).trans rfl; have hcz68_7 : w63.cell? ⟨gb249, 7, none⟩ = some (.int .i64 a1_7) := (blk_cell BK249.out 7).trans rfl; have hcz68_8 : w63.cell? ⟨gb249, 8, none⟩ = some (.int .i64 a1_8) := (blk_cell BK249.out 8).trans rfl; have hcz68_9 : w63.cell? ⟨gb249, 9, none⟩ = some (.int .u64 a1_9) := (blk_cell BK249.out 9).trans rfl; have hcz68_10 : w63.cell? ⟨gb249, 10, none⟩ = some (.slice A1_10 l1_10.length c1_10) := (blk_cell BK249.out 10).trans rfl; have hfz68_0 := blk_frozen BK249.out 0; have hfz68_1 := blk_frozen BK249.out 1; have hfz68_2 := blk_frozen BK249.out 2; have hfz68_3 := blk_frozen BK249.out 3; have hfz68_4 := blk_frozen BK249.out 4; have hfz68_5 := blk_frozen BK249.out 5; have hfz68_6 := blk_frozen BK249.out 6; have hfz68_7 := blk_frozen BK249.out 7; have hfz68_8 := blk_frozen BK249.out 8; have hfz68_9 := blk_frozen BK249.out 9; have hfz68_10 := blk_frozen BK249.out 10; have p252 : 0 ≤ (x87_2 : Int) := of_decide_eq_true (by first | (with_reducible assumption) | assumption); have q252 : x87_2 < (l1_10.length : Int) := of_decide_eq_true (by first | (with_reducible assumption) | assumption); obtain ⟨ad252, e252, hx252_0, hx252_1⟩ := at_T48 HR1_10.out x87_2 p252 q252; cases e252; have hn252_0 : ad252.block ≠ gb251 := Nat.ne_of_lt (Nat.lt_of_lt_of_le (by have := World.block_lt_of_cell? _ _ hx252_0; first | rwa [add_block] at this | exact this) GW251.out); have hn252_1 : ad252.block ≠ gb251 := Nat.ne_of_lt (Nat.lt_of_lt_of_le (by have := World.block_lt_of_cell? _ _ hx252_0; first | rwa [add_block] at this | exact this) GW251.out); replace hx252_0 := (HB.out.cell (World.block_lt_of_cell? w _ hx252_0)).trans hx252_0; replace hx252_1 := (HB.out.cell (World.block_lt_of_cell? w _ hx252_1)).trans hx252_1; replace hx252_0 := (cell_far (p := ⟨gb251, 0, none⟩) (by first | exact hn252_0 | (simp only [add_block]; exact hn252_0)) (.int .i64 ((rd_T48 l0_10 x87_2).f0))).trans hx252_0; replace hx252_1 := (cell_far (p := ⟨gb251, 0, none⟩) (by first | exact hn252_0 | (simp only [add_block]; exact hn252_0)) (.int .i64 ((rd_T48 l0_10 x87_2).f0))).trans hx252_1; replace hx252_0 := (cell_far (p := ⟨gb251, 1, none⟩) (by first | exact hn252_1 | (simp only [add_block]; exact hn252_1)) (.int .i64 ((rd_T48 l0_10 x87_2).f1))).trans hx252_0; replace hx252_1 := (cell_far (p := ⟨gb251, 1, none⟩) (by first | exact hn252_1 | (simp only [add_block]; exact hn252_1)) (.int .i64 ((rd_T48 l0_10 x87_2).f1))).trans hx252_1; (try have hy252_0 := fun (n_ : Nat) => (show ((((w63.drewN n_).setCell ⟨gb251, 0, none⟩ (.int .i64 ((rd_T48 l0_10 x87_2).f0))).setCell ⟨gb251, 1, none⟩ (.int .i64 ((rd_T48 l0_10 x87_2).f1)))).cell? _ = some _ from hx252_0)); (try have hy252_1 := fun (n_ : Nat) => (show ((((w63.drewN n_).setCell ⟨gb251, 0, none⟩ (.int .i64 ((rd_T48 l0_10 x87_2).f0))).setCell ⟨gb251, 1, none⟩ (.int .i64 ((rd_T48 l0_10 x87_2).f1)))).cell? _ = some _ from hx252_1)); clear hn252_0; clear hn252_1; replace p252 := eq_true p252; replace q252 := eq_true q252))
     repeat (go_quiet (fail); try go_wp2)
     go_roundg k2
     case measure => have := HJ2.out; have := HK2.out; omega
     case rel => exact ⟨(wrap64 (x87_2 + 1)), (by first | rfl | (simp; done) | (simp [*]; done)), H', ⟨by have := HJ2.out; have := HK2.out; omega⟩, ⟨by (with_reducible repeat (first | refine blk_drewN ?_ _ | refine blk_drew ?_ | refine blk_alloc ?_ _)); refine blk_far ?_ NB248_251.out _; (with_reducible repeat (first | refine blk_drewN ?_ _ | refine blk_drew ?_ | refine blk_alloc ?_ _)); refine blk_far ?_ NB248_251.out _; (with_reducible repeat (first | refine blk_drewN ?_ _ | refine blk_drew ?_ | refine blk_alloc ?_ _)); exact BK248.out⟩, ⟨by (with_reducible repeat (first | refine blk_drewN ?_ _ | refine blk_drew ?_ | refine blk_alloc ?_ _)); refine blk_far ?_ NB249_251.out _; (with_reducible repeat (first | refine blk_drewN ?_ _ | refine blk_drew ?_ | refine blk_alloc ?_ _)); refine blk_far ?_ NB249_251.out _; (with_reducible repeat (first | refine blk_drewN ?_ _ | refine blk_drew ?_ | refine blk_alloc ?_ _)); exact BK249.out⟩, ⟨by repeat (first | (with_reducible first | exact HB.out | apply below_alloc | apply pw_below_drewN | apply below_drew1 | refine below_set ?_ GE248.out | refine below_set ?_ GE249.out | refine below_set ?_ GE251.out) | exact HB.out)⟩⟩
end

end Go.Proofs.Ytldiipomcenbkaa.Qw
