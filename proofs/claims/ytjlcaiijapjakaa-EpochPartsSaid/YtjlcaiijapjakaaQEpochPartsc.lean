/- The machine's side of EpochParts, part 3 of 3: functions and their contracts, printed by a program of this session. -/
import Derived.Test.YtjlcaiijapjakaaQEpochPartsb
namespace Go.Proofs.Ytjlcaiijapjakaa.QEpochParts
open Go.RowKit Go.Proofs.YtjlcaiijapjakaaW.PrintWords Go.Proofs.YtjlcaiijapjakaaW.PrintLast Go.Proofs.YtjlcaiijapjakaaW.PrintMore
attribute [local go_sem] max2_int min2_int max_two min_two max_three min_three max_four min_four   -- for this text's walks alone
set_option linter.unusedVariables false
set_option linter.unusedSimpArgs false

/-! ### grapevinelaw06_EpochParts: function 11 -/
mutual
def grapevinelaw06_EpochParts.j0 : Nat → Int → Int → Bool → Option (Bool)
 | 0, _, _, _ => none
 | k + 1, x0, x1, x30 => if x30 = true then (some true) else (if 0 ≤ x0 then (if (x0 : Int).toNat ≤ 11728124029610 then ((some (List.replicate (x0 : Int).toNat z23 : List (S23))).bind fun y144 => (grapevinelaw06_EpochParts.l0 k x0 x1 y144 (y144.length : Int) 0)) else (none)) else (none))
def grapevinelaw06_EpochParts.l0 : Nat → Int → Int → List (S23) → Int → Int → Option (Bool)
 | 0, _, _, _, _, _ => none
 | k + 1, x0, x1, x5, x34, x35 => if x35 < x34 then (if 0 ≤ x35 then (if x35 < (x5.length : Int) then (grapevinelaw06_EpochParts.l0 k x0 x1 (x5.set (x35 : Int).toNat (⟨x1, 0, x1⟩ : S23)) x34 (wrap64 (x35 + 1))) else (none)) else (none)) else (grapevinelaw06_EpochParts.l1 k x0 x1 x5 (wrap64 (x0 * x0)) 0)
def grapevinelaw06_EpochParts.l1 : Nat → Int → Int → List (S23) → Int → Int → Option (Bool)
 | 0, _, _, _, _, _ => none
 | k + 1, x0, x1, x5, x47, x48 => if x48 < x47 then (grapevinelaw06_EpochParts.l2 k x0 x1 x5 x47 x48 (x5.length : Int) 0) else (grapevinelaw06_EpochParts.l4 k x0 x1 x5 (x5.length : Int) 0)
def grapevinelaw06_EpochParts.l2 : Nat → Int → Int → List (S23) → Int → Int → Int → Int → Option (Bool)
 | 0, _, _, _, _, _, _, _ => none
 | k + 1, x0, x1, x5, x47, x48, x51, x52 => if x52 < x51 then (grapevinelaw06_EpochParts.l3 k x0 x1 x5 x52 x47 x48 x51 x52 (x5.length : Int) 0) else (grapevinelaw06_EpochParts.l1 k x0 x1 x5 x47 (wrap64 (x48 + 1)))
def grapevinelaw06_EpochParts.l3 : Nat → Int → Int → List (S23) → Int → Int → Int → Int → Int → Int → Int → Option (Bool)
 | 0, _, _, _, _, _, _, _, _, _, _ => none
 | k + 1, x0, x1, x5, x7, x47, x48, x51, x52, x56, x57 => if x57 < x56 then (if 0 ≤ x7 then (if x7 < (x5.length : Int) then (if 0 ≤ x57 then (if x57 < (x5.length : Int) then ((epoch_Epochs_See.f ((rd_T23 x5 x7).f0) ((rd_T23 x5 x7).f1) ((rd_T23 x5 x7).f2) ((rd_T23 x5 x57).f0)).bind fun bt150 => (if bt150.2.2.2 = 0 then ((some (x5.set (x7 : Int).toNat (⟨bt150.1, bt150.2.1, bt150.2.2.1⟩ : S23) : List (S23))).bind fun y155 => ((epoch_Yields.f (wrap64 (x7 + 1)) (wrap64 (x57 + 1)) ((rd_T23 y155 x7).f2) ((rd_T23 y155 x57).f2)).bind fun t158 => (if t158 = true then ((epoch_Epochs_Bump.f ((rd_T23 y155 x7).f0) ((rd_T23 y155 x7).f1) ((rd_T23 y155 x7).f2)).bind fun bt160 => (if bt160.2.2.2 = 0 then (grapevinelaw06_EpochParts.l3 k x0 x1 (y155.set (x7 : Int).toNat (⟨bt160.1, bt160.2.1, bt160.2.2.1⟩ : S23)) x7 x47 x48 x51 x52 x56 (wrap64 (x57 + 1))) else (some false))) else (grapevinelaw06_EpochParts.l3 k x0 x1 y155 x7 x47 x48 x51 x52 x56 (wrap64 (x57 + 1)))))) else (some false))) else (none)) else (none)) else (none)) else (none)) else (grapevinelaw06_EpochParts.l2 k x0 x1 x5 x47 x48 x51 (wrap64 (x52 + 1)))
def grapevinelaw06_EpochParts.l4 : Nat → Int → Int → List (S23) → Int → Int → Option (Bool)
 | 0, _, _, _, _, _ => none
 | k + 1, x0, x1, x5, x112, x113 => if x113 < x112 then (grapevinelaw06_EpochParts.l5 k x0 x1 x5 x113 x112 x113 x113 0) else (if 0 ≤ (wrap64 (x0 - 1)) then (if (wrap64 (x0 - 1)) < (x5.length : Int) then (some (((rd_T23 x5 (wrap64 (x0 - 1))).f2) == x1)) else (none)) else (none))
def grapevinelaw06_EpochParts.l5 : Nat → Int → Int → List (S23) → Int → Int → Int → Int → Int → Option (Bool)
 | 0, _, _, _, _, _, _, _, _ => none
 | k + 1, x0, x1, x5, x13, x112, x113, x116, x117 => if x117 < x116 then (if 0 ≤ x13 then (if x13 < (x5.length : Int) then (if 0 ≤ x117 then (if x117 < (x5.length : Int) then (if ((rd_T23 x5 x13).f2) = ((rd_T23 x5 x117).f2) then (some false) else (grapevinelaw06_EpochParts.l5 k x0 x1 x5 x13 x112 x113 x116 (wrap64 (x117 + 1)))) else (none)) else (none)) else (none)) else (none)) else (grapevinelaw06_EpochParts.l4 k x0 x1 x5 x112 (wrap64 (x113 + 1)))
end
def grapevinelaw06_EpochParts.f (k : Nat) (a0 : Int) (a1 : Int) : Option (Bool) := (grapevinelaw06_anchor.f).bind fun t143 => (if t143 = true then (if a0 < 1 then (grapevinelaw06_EpochParts.j0 k a0 a1 true) else (if a0 > 8 then (grapevinelaw06_EpochParts.j0 k a0 a1 true) else (if a1 < 0 then (grapevinelaw06_EpochParts.j0 k a0 a1 true) else (grapevinelaw06_EpochParts.j0 k a0 a1 (decide (a1 > 1099511627776)))))) else (some false))
theorem grapevinelaw06_EpochParts.mono_l : ∀ k, (∀ y0 y1 y2, LeO (grapevinelaw06_EpochParts.j0 k y0 y1 y2) (grapevinelaw06_EpochParts.j0 (k + 1) y0 y1 y2)) ∧ (∀ y0 y1 y2 y3 y4, LeO (grapevinelaw06_EpochParts.l0 k y0 y1 y2 y3 y4) (grapevinelaw06_EpochParts.l0 (k + 1) y0 y1 y2 y3 y4)) ∧ (∀ y0 y1 y2 y3 y4, LeO (grapevinelaw06_EpochParts.l1 k y0 y1 y2 y3 y4) (grapevinelaw06_EpochParts.l1 (k + 1) y0 y1 y2 y3 y4)) ∧ (∀ y0 y1 y2 y3 y4 y5 y6, LeO (grapevinelaw06_EpochParts.l2 k y0 y1 y2 y3 y4 y5 y6) (grapevinelaw06_EpochParts.l2 (k + 1) y0 y1 y2 y3 y4 y5 y6)) ∧ (∀ y0 y1 y2 y3 y4 y5 y6 y7 y8 y9, LeO (grapevinelaw06_EpochParts.l3 k y0 y1 y2 y3 y4 y5 y6 y7 y8 y9) (grapevinelaw06_EpochParts.l3 (k + 1) y0 y1 y2 y3 y4 y5 y6 y7 y8 y9)) ∧ (∀ y0 y1 y2 y3 y4, LeO (grapevinelaw06_EpochParts.l4 k y0 y1 y2 y3 y4) (grapevinelaw06_EpochParts.l4 (k + 1) y0 y1 y2 y3 y4)) ∧ (∀ y0 y1 y2 y3 y4 y5 y6 y7, LeO (grapevinelaw06_EpochParts.l5 k y0 y1 y2 y3 y4 y5 y6 y7) (grapevinelaw06_EpochParts.l5 (k + 1) y0 y1 y2 y3 y4 y5 y6 y7))
 | 0 => ⟨fun _ _ _ r h => by simp [grapevinelaw06_EpochParts.j0] at h, fun _ _ _ _ _ r h => by simp [grapevinelaw06_EpochParts.l0] at h, fun _ _ _ _ _ r h => by simp [grapevinelaw06_EpochParts.l1] at h, fun _ _ _ _ _ _ _ r h => by simp [grapevinelaw06_EpochParts.l2] at h, fun _ _ _ _ _ _ _ _ _ _ r h => by simp [grapevinelaw06_EpochParts.l3] at h, fun _ _ _ _ _ r h => by simp [grapevinelaw06_EpochParts.l4] at h, fun _ _ _ _ _ _ _ _ r h => by simp [grapevinelaw06_EpochParts.l5] at h⟩
 | k + 1 => by
  obtain ⟨ih0, ih1, ih2, ih3, ih4, ih5, ih6⟩ := grapevinelaw06_EpochParts.mono_l k
  refine ⟨?_, ?_, ?_, ?_, ?_, ?_, ?_⟩
  ·intro y0 y1 y2
   unfold grapevinelaw06_EpochParts.j0
   repeat' first
   | (with_reducible exact ih0 _ _ _)
   | (with_reducible exact ih1 _ _ _ _ _)
   | (with_reducible exact ih2 _ _ _ _ _)
   | (with_reducible exact ih3 _ _ _ _ _ _ _)
   | (with_reducible exact ih4 _ _ _ _ _ _ _ _ _ _)
   | (with_reducible exact ih5 _ _ _ _ _)
   | (with_reducible exact ih6 _ _ _ _ _ _ _ _)
   | (with_reducible exact LeO.refl _)
   | (with_reducible exact LeO.none _)
   | (with_reducible refine LeO.ite ?_ ?_)
   | (with_reducible refine LeO.bind ?_ (fun _ => ?_))
   | exact ih0 _ _ _
   | exact ih1 _ _ _ _ _
   | exact ih2 _ _ _ _ _
   | exact ih3 _ _ _ _ _ _ _
   | exact ih4 _ _ _ _ _ _ _ _ _ _
   | exact ih5 _ _ _ _ _
   | exact ih6 _ _ _ _ _ _ _ _
   | exact LeO.none _
   | refine LeO.ite ?_ ?_
   | refine LeO.bind ?_ (fun _ => ?_)
  ·intro y0 y1 y2 y3 y4
   unfold grapevinelaw06_EpochParts.l0
   repeat' first
   | (with_reducible exact ih0 _ _ _)
   | (with_reducible exact ih1 _ _ _ _ _)
   | (with_reducible exact ih2 _ _ _ _ _)
   | (with_reducible exact ih3 _ _ _ _ _ _ _)
   | (with_reducible exact ih4 _ _ _ _ _ _ _ _ _ _)
   | (with_reducible exact ih5 _ _ _ _ _)
   | (with_reducible exact ih6 _ _ _ _ _ _ _ _)
   | (with_reducible exact LeO.refl _)
   | (with_reducible exact LeO.none _)
   | (with_reducible refine LeO.ite ?_ ?_)
   | (with_reducible refine LeO.bind ?_ (fun _ => ?_))
   | exact ih0 _ _ _
   | exact ih1 _ _ _ _ _
   | exact ih2 _ _ _ _ _
   | exact ih3 _ _ _ _ _ _ _
   | exact ih4 _ _ _ _ _ _ _ _ _ _
   | exact ih5 _ _ _ _ _
   | exact ih6 _ _ _ _ _ _ _ _
   | exact LeO.none _
   | refine LeO.ite ?_ ?_
   | refine LeO.bind ?_ (fun _ => ?_)
  ·intro y0 y1 y2 y3 y4
   unfold grapevinelaw06_EpochParts.l1
   repeat' first
   | (with_reducible exact ih0 _ _ _)
   | (with_reducible exact ih1 _ _ _ _ _)
   | (with_reducible exact ih2 _ _ _ _ _)
   | (with_reducible exact ih3 _ _ _ _ _ _ _)
   | (with_reducible exact ih4 _ _ _ _ _ _ _ _ _ _)
   | (with_reducible exact ih5 _ _ _ _ _)
   | (with_reducible exact ih6 _ _ _ _ _ _ _ _)
   | (with_reducible exact LeO.refl _)
   | (with_reducible exact LeO.none _)
   | (with_reducible refine LeO.ite ?_ ?_)
   | (with_reducible refine LeO.bind ?_ (fun _ => ?_))
   | exact ih0 _ _ _
   | exact ih1 _ _ _ _ _
   | exact ih2 _ _ _ _ _
   | exact ih3 _ _ _ _ _ _ _
   | exact ih4 _ _ _ _ _ _ _ _ _ _
   | exact ih5 _ _ _ _ _
   | exact ih6 _ _ _ _ _ _ _ _
   | exact LeO.none _
   | refine LeO.ite ?_ ?_
   | refine LeO.bind ?_ (fun _ => ?_)
  ·intro y0 y1 y2 y3 y4 y5 y6
   unfold grapevinelaw06_EpochParts.l2
   repeat' first
   | (with_reducible exact ih0 _ _ _)
   | (with_reducible exact ih1 _ _ _ _ _)
   | (with_reducible exact ih2 _ _ _ _ _)
   | (with_reducible exact ih3 _ _ _ _ _ _ _)
   | (with_reducible exact ih4 _ _ _ _ _ _ _ _ _ _)
   | (with_reducible exact ih5 _ _ _ _ _)
   | (with_reducible exact ih6 _ _ _ _ _ _ _ _)
   | (with_reducible exact LeO.refl _)
   | (with_reducible exact LeO.none _)
   | (with_reducible refine LeO.ite ?_ ?_)
   | (with_reducible refine LeO.bind ?_ (fun _ => ?_))
   | exact ih0 _ _ _
   | exact ih1 _ _ _ _ _
   | exact ih2 _ _ _ _ _
   | exact ih3 _ _ _ _ _ _ _
   | exact ih4 _ _ _ _ _ _ _ _ _ _
   | exact ih5 _ _ _ _ _
   | exact ih6 _ _ _ _ _ _ _ _
   | exact LeO.none _
   | refine LeO.ite ?_ ?_
   | refine LeO.bind ?_ (fun _ => ?_)
  ·intro y0 y1 y2 y3 y4 y5 y6 y7 y8 y9
   unfold grapevinelaw06_EpochParts.l3
   repeat' first
   | (with_reducible exact ih0 _ _ _)
   | (with_reducible exact ih1 _ _ _ _ _)
   | (with_reducible exact ih2 _ _ _ _ _)
   | (with_reducible exact ih3 _ _ _ _ _ _ _)
   | (with_reducible exact ih4 _ _ _ _ _ _ _ _ _ _)
   | (with_reducible exact ih5 _ _ _ _ _)
   | (with_reducible exact ih6 _ _ _ _ _ _ _ _)
   | (with_reducible exact LeO.refl _)
   | (with_reducible exact LeO.none _)
   | (with_reducible refine LeO.ite ?_ ?_)
   | (with_reducible refine LeO.bind ?_ (fun _ => ?_))
   | exact ih0 _ _ _
   | exact ih1 _ _ _ _ _
   | exact ih2 _ _ _ _ _
   | exact ih3 _ _ _ _ _ _ _
   | exact ih4 _ _ _ _ _ _ _ _ _ _
   | exact ih5 _ _ _ _ _
   | exact ih6 _ _ _ _ _ _ _ _
   | exact LeO.none _
   | refine LeO.ite ?_ ?_
   | refine LeO.bind ?_ (fun _ => ?_)
  ·intro y0 y1 y2 y3 y4
   unfold grapevinelaw06_EpochParts.l4
   repeat' first
   | (with_reducible exact ih0 _ _ _)
   | (with_reducible exact ih1 _ _ _ _ _)
   | (with_reducible exact ih2 _ _ _ _ _)
   | (with_reducible exact ih3 _ _ _ _ _ _ _)
   | (with_reducible exact ih4 _ _ _ _ _ _ _ _ _ _)
   | (with_reducible exact ih5 _ _ _ _ _)
   | (with_reducible exact ih6 _ _ _ _ _ _ _ _)
   | (with_reducible exact LeO.refl _)
   | (with_reducible exact LeO.none _)
   | (with_reducible refine LeO.ite ?_ ?_)
   | (with_reducible refine LeO.bind ?_ (fun _ => ?_))
   | exact ih0 _ _ _
   | exact ih1 _ _ _ _ _
   | exact ih2 _ _ _ _ _
   | exact ih3 _ _ _ _ _ _ _
   | exact ih4 _ _ _ _ _ _ _ _ _ _
   | exact ih5 _ _ _ _ _
   | exact ih6 _ _ _ _ _ _ _ _
   | exact LeO.none _
   | refine LeO.ite ?_ ?_
   | refine LeO.bind ?_ (fun _ => ?_)
  ·intro y0 y1 y2 y3 y4 y5 y6 y7
   unfold grapevinelaw06_EpochParts.l5
   repeat' first
   | (with_reducible exact ih0 _ _ _)
   | (with_reducible exact ih1 _ _ _ _ _)
   | (with_reducible exact ih2 _ _ _ _ _)
   | (with_reducible exact ih3 _ _ _ _ _ _ _)
   | (with_reducible exact ih4 _ _ _ _ _ _ _ _ _ _)
   | (with_reducible exact ih5 _ _ _ _ _)
   | (with_reducible exact ih6 _ _ _ _ _ _ _ _)
   | (with_reducible exact LeO.refl _)
   | (with_reducible exact LeO.none _)
   | (with_reducible refine LeO.ite ?_ ?_)
   | (with_reducible refine LeO.bind ?_ (fun _ => ?_))
   | exact ih0 _ _ _
   | exact ih1 _ _ _ _ _
   | exact ih2 _ _ _ _ _
   | exact ih3 _ _ _ _ _ _ _
   | exact ih4 _ _ _ _ _ _ _ _ _ _
   | exact ih5 _ _ _ _ _
   | exact ih6 _ _ _ _ _ _ _ _
   | exact LeO.none _
   | refine LeO.ite ?_ ?_
   | refine LeO.bind ?_ (fun _ => ?_)
theorem grapevinelaw06_EpochParts.mono : ∀ a0 a1 k, LeO (grapevinelaw06_EpochParts.f k a0 a1) (grapevinelaw06_EpochParts.f (k + 1) a0 a1) := by
 intro a0 a1 k
 obtain ⟨ih0, ih1, ih2, ih3, ih4, ih5, ih6⟩ := grapevinelaw06_EpochParts.mono_l k
 unfold grapevinelaw06_EpochParts.f
 repeat' first
   | (with_reducible exact ih0 _ _ _)
   | (with_reducible exact ih1 _ _ _ _ _)
   | (with_reducible exact ih2 _ _ _ _ _)
   | (with_reducible exact ih3 _ _ _ _ _ _ _)
   | (with_reducible exact ih4 _ _ _ _ _ _ _ _ _ _)
   | (with_reducible exact ih5 _ _ _ _ _)
   | (with_reducible exact ih6 _ _ _ _ _ _ _ _)
   | (with_reducible exact LeO.refl _)
   | (with_reducible exact LeO.none _)
   | (with_reducible refine LeO.ite ?_ ?_)
   | (with_reducible refine LeO.bind ?_ (fun _ => ?_))
   | exact ih0 _ _ _
   | exact ih1 _ _ _ _ _
   | exact ih2 _ _ _ _ _
   | exact ih3 _ _ _ _ _ _ _
   | exact ih4 _ _ _ _ _ _ _ _ _ _
   | exact ih5 _ _ _ _ _
   | exact ih6 _ _ _ _ _ _ _ _
   | exact LeO.none _
   | refine LeO.ite ?_ ?_
   | refine LeO.bind ?_ (fun _ => ?_)
def grapevinelaw06_EpochParts.T19 : Bool × List (List Nat × List Nat) := (true, [([], []), ([], []), ([0, 1], [0, 1]), ([2], [2]), ([], []), ([], []), ([4, 5], [4, 5]), ([6], [6]), ([7], [7]), ([3, 8], [3, 8]), ([9], [9]), ([10], [10]), ([10], [10]), ([], []), ([13, 11, 9, 0, 1, 2, 3, 4, 5, 6, 7, 8, 9, 10, 11, 13], [11, 13]), ([12, 14, 0, 1, 2, 3, 4, 5, 6, 7, 8, 9, 10, 11, 12, 13, 14], [12])])
def grapevinelaw06_EpochParts.B19 : List Nat := [0, 0, 3, 7, 0, 0, 48, 112, 240, 511, 1023, 2047, 2047, 0, 12287, 32767]
theorem grapevinelaw06_EpochParts.tab19 : rtab .any (opsOf Try.f11 19) = grapevinelaw06_EpochParts.T19 := by kernel_rfl
theorem grapevinelaw06_EpochParts.bits19 : waitsOk grapevinelaw06_EpochParts.T19.2 grapevinelaw06_EpochParts.B19 = true := by kernel_rfl
def grapevinelaw06_EpochParts.T23 : Bool × List (List Nat × List Nat) := (true, [([], []), ([0], [0]), ([], []), ([2], [2]), ([], []), ([], []), ([4, 5], [4, 5]), ([6], [6]), ([7], [7]), ([], []), ([], []), ([9, 10], [9, 10]), ([11], [11]), ([12], [12]), ([1, 3, 8, 13], [1, 3, 8, 13])])
def grapevinelaw06_EpochParts.B23 : List Nat := [0, 1, 0, 4, 0, 0, 48, 112, 240, 0, 0, 1536, 3584, 7680, 16383]
theorem grapevinelaw06_EpochParts.tab23 : rtab .any (opsOf Try.f11 23) = grapevinelaw06_EpochParts.T23 := by kernel_rfl
theorem grapevinelaw06_EpochParts.bits23 : waitsOk grapevinelaw06_EpochParts.T23.2 grapevinelaw06_EpochParts.B23 = true := by kernel_rfl
def grapevinelaw06_EpochParts.T37 : Bool × List (List Nat × List Nat) := (true, [([], []), ([], []), ([0, 1], [0, 1]), ([2], [2]), ([3], [3]), ([], []), ([], []), ([5, 6], [5, 6]), ([7], [7]), ([8], [8]), ([4, 9], [4, 9])])
def grapevinelaw06_EpochParts.B37 : List Nat := [0, 0, 3, 7, 15, 0, 0, 96, 224, 480, 1023]
theorem grapevinelaw06_EpochParts.tab37 : rtab .any (opsOf Try.f11 37) = grapevinelaw06_EpochParts.T37 := by kernel_rfl
theorem grapevinelaw06_EpochParts.bits37 : waitsOk grapevinelaw06_EpochParts.T37.2 grapevinelaw06_EpochParts.B37 = true := by kernel_rfl
set_option maxHeartbeats 8000000 in
set_option maxRecDepth 100000 in
theorem grapevinelaw06_EpochParts.calls (k : Nat) (a0 : Int) (a1 : Int) (r : Bool) (w : World) (h : grapevinelaw06_EpochParts.f k a0 a1 = some r) :
  Calls Try.prog 11 #[.int .i64 a0, .int .i64 a1] w fun e w' => e = .returned (.bool r) ∧ Below w.heap.size w w' := by
 have hu23 := Try.underlying23
 have HB := Aside0.mk (Below.refl w.heap.size w)
 have H : ((grapevinelaw06_anchor.f).bind fun t143 => (if t143 = true then (if a0 < 1 then (grapevinelaw06_EpochParts.j0 k a0 a1 true) else (if a0 > 8 then (grapevinelaw06_EpochParts.j0 k a0 a1 true) else (if a1 < 0 then (grapevinelaw06_EpochParts.j0 k a0 a1 true) else (grapevinelaw06_EpochParts.j0 k a0 a1 (decide (a1 > 1099511627776)))))) else (some false))) = some r := h
 clear h
 replace H := Option.bind_eq_some_iff.mp H
 obtain ⟨t143, A30, H⟩ := H
 replace H : (if t143 = true then (if a0 < 1 then (grapevinelaw06_EpochParts.j0 k a0 a1 true) else (if a0 > 8 then (grapevinelaw06_EpochParts.j0 k a0 a1 true) else (if a1 < 0 then (grapevinelaw06_EpochParts.j0 k a0 a1 true) else (grapevinelaw06_EpochParts.j0 k a0 a1 (decide (a1 > 1099511627776)))))) else (some false)) = some r := H
 have A3 := Aside0.mk A30
 clear A30
 by_cases c4 : t143 = true
 rotate_left
 ·replace c4 := Bool.eq_false_iff.mpr c4
  subst c4
  have H1 : (some false) = some r := by rw [if_neg (show ¬ (false = true) by decide)] at H; exact H
  clear H
  have H := H1
  clear H1
  obtain rfl := Option.some.inj H
  go_enter Try.func11, Try.ntmps11
  go_wp2_with (first | ((with_reducible refine gate_callee (f := 12) rfl ?_); refine goesL_ (some 15) rfl rfl Try.func12 (by kernel_rfl) rfl #[] rfl (by (try simp only [List.map_toArray, List.map_cons, List.map_nil]); first | done | rfl | (simp only [List.length_drop, List.length_take]; rfl)) ?_; (with_reducible refine (grapevinelaw06_anchor.calls  false _ A3.out).mono ?_); rintro e w104 ⟨rfl, hb⟩; refine ⟨_, rfl, ?_⟩; have n0_ := Aside0.mk (below_step (by repeat (first | (with_reducible first | exact HB.out | apply below_alloc | apply pw_below_drewN | apply below_drew1) | exact HB.out)) hb); clear HB; have HB := n0_; clear n0_; (try clear hb); (try clear hb2); (try clear hk); (try clear hi)))
  go_ret
  exact ⟨by first | rfl | (simp [errW_none, errW_some] <;> rfl) | (simp [*, errW_none, errW_some] <;> rfl), by repeat (first | (with_reducible first | exact HB.out | apply below_alloc | apply pw_below_drewN | apply below_drew1) | exact HB.out)⟩
 subst c4
 have H1 : (if a0 < 1 then (grapevinelaw06_EpochParts.j0 k a0 a1 true) else (if a0 > 8 then (grapevinelaw06_EpochParts.j0 k a0 a1 true) else (if a1 < 0 then (grapevinelaw06_EpochParts.j0 k a0 a1 true) else (grapevinelaw06_EpochParts.j0 k a0 a1 (decide (a1 > 1099511627776)))))) = some r := by rw [if_pos rfl] at H; exact H
 clear H
 have H := H1
 clear H1
 have HC5 := Aside0.mk H
 clear H
 go_enter Try.func11, Try.ntmps11
 go_upto_region 3 with (first | ((with_reducible refine gate_callee (f := 12) rfl ?_); refine goesL_ (some 15) rfl rfl Try.func12 (by kernel_rfl) rfl #[] rfl (by (try simp only [List.map_toArray, List.map_cons, List.map_nil]); first | done | rfl | (simp only [List.length_drop, List.length_take]; rfl)) ?_; (with_reducible refine (grapevinelaw06_anchor.calls  true _ A3.out).mono ?_); rintro e w6 ⟨rfl, hb⟩; refine ⟨_, rfl, ?_⟩; have n0_ := Aside0.mk (below_step (by repeat (first | (with_reducible first | exact HB.out | apply below_alloc | apply pw_below_drewN | apply below_drew1) | exact HB.out)) hb); clear HB; have HB := n0_; clear n0_; (try clear hb); (try clear hb2); (try clear hk); (try clear hi)))
 (try simp only [Act.put, List.setIfInBounds_toArray, List.set_cons_zero, List.set_cons_succ])
 go_cut [30] (fun v30 wc => ∃ (kq : Nat) (x30_4 : Bool), v30 = .bool x30_4 ∧ Aside0 (grapevinelaw06_EpochParts.j0 kq a0 a1 x30_4 = some r) ∧ Aside0 (kq ≤ k) ∧ Aside0 (Below w.heap.size w wc))
 case first =>
  have H := HC5.out
  clear HC5
  by_cases c7 : a0 < 1
  ·rw [if_pos c7] at H
   have c7b0 : decide (a0 < 1) = true := decide_eq_true c7
   clear c7
   (first | rw [c7b0] | (simp only [i64_w, i32_w]; rw [c7b0]) | skip)
   have H' := Aside0.mk H
   clear H
   go_wp2
   go_meet
   case rel => exact ⟨_, (true), (by first | rfl | (simp; done) | (simp [*]; done)), H', ⟨by first | omega | exact Nat.le_refl _⟩, ⟨by repeat (first | (with_reducible first | exact HB.out | apply below_alloc | apply pw_below_drewN | apply below_drew1) | exact HB.out)⟩⟩
  rw [if_neg c7] at H
  have c7b0 : decide (a0 < 1) = false := decide_eq_false c7
  clear c7
  (first | rw [c7b0] | (simp only [i64_w, i32_w]; rw [c7b0]) | skip)
  by_cases c8 : a0 > 8
  ·rw [if_pos c8] at H
   have c8b0 : decide (8 < a0) = true := decide_eq_true c8
   clear c8
   have H' := Aside0.mk H
   clear H
   go_wp2
   go_meet
   case rel => exact ⟨_, (true), (by first | rfl | (simp; done) | (simp [*]; done)), H', ⟨by first | omega | exact Nat.le_refl _⟩, ⟨by repeat (first | (with_reducible first | exact HB.out | apply below_alloc | apply pw_below_drewN | apply below_drew1) | exact HB.out)⟩⟩
  rw [if_neg c8] at H
  have c8b0 : decide (8 < a0) = false := decide_eq_false c8
  clear c8
  by_cases c9 : a1 < 0
  ·rw [if_pos c9] at H
   have c9b0 : decide (a1 < 0) = true := decide_eq_true c9
   clear c9
   have H' := Aside0.mk H
   clear H
   go_wp2
   go_meet
   case rel => exact ⟨_, (true), (by first | rfl | (simp; done) | (simp [*]; done)), H', ⟨by first | omega | exact Nat.le_refl _⟩, ⟨by repeat (first | (with_reducible first | exact HB.out | apply below_alloc | apply pw_below_drewN | apply below_drew1) | exact HB.out)⟩⟩
  rw [if_neg c9] at H
  have c9b0 : decide (a1 < 0) = false := decide_eq_false c9
  clear c9
  have H' := Aside0.mk H
  clear H
  go_wp2
  go_meet
  case rel => exact ⟨_, (decide (a1 > 1099511627776)), (by first | rfl | (simp; done) | (simp [*]; done)), H', ⟨by first | omega | exact Nat.le_refl _⟩, ⟨by repeat (first | (with_reducible first | exact HB.out | apply below_alloc | apply pw_below_drewN | apply below_drew1) | exact HB.out)⟩⟩
 case rest =>
  clear HC5
  try clear c1
  try clear p2
  try clear c4
  try clear c7
  try clear c7b0
  try clear c8
  try clear c8b0
  try clear c9
  try clear c9b0
  obtain ⟨kq, x30_4, rfl, HA, HJ4, HB⟩ := hcut
  cases kq with
  | zero => exact absurd HA.out (by simp [grapevinelaw06_EpochParts.j0])
  | succ kj4 =>
   have H := HA.out
   clear HA
   simp only [grapevinelaw06_EpochParts.j0] at H
   by_cases c10 : x30_4 = true
   ·subst c10
    have H1 : (some true) = some r := by rw [if_pos rfl] at H; exact H
    clear H
    have H := H1
    clear H1
    obtain rfl := Option.some.inj H
    go_wp2
    go_ret
    exact ⟨by first | rfl | (simp [errW_none, errW_some] <;> rfl) | (simp [*, errW_none, errW_some] <;> rfl), by repeat (first | (with_reducible first | exact HB.out | apply below_alloc | apply pw_below_drewN | apply below_drew1) | exact HB.out)⟩
   replace c10 := Bool.eq_false_iff.mpr c10
   subst c10
   have H1 : (if 0 ≤ a0 then (if (a0 : Int).toNat ≤ 11728124029610 then ((some (List.replicate (a0 : Int).toNat z23 : List (S23))).bind fun y144 => (grapevinelaw06_EpochParts.l0 kj4 a0 a1 y144 (y144.length : Int) 0)) else (none)) else (none)) = some r := by rw [if_neg (show ¬ (false = true) by decide)] at H; exact H
   clear H
   have H := H1
   clear H1
   by_cases c11 : 0 ≤ a0
   rotate_left
   ·rw [if_neg c11] at H
    exact absurd H (by simp)
   rw [if_pos c11] at H
   have c11b0 := eq_true c11
   have c11b1 : decide (0 ≤ a0) = true := decide_eq_true c11
   clear c11
   by_cases c12 : (a0 : Int).toNat ≤ 11728124029610
   rotate_left
   ·rw [if_neg c12] at H
    exact absurd H (by simp)
   rw [if_pos c12] at H
   have c12b0 := eq_true c12
   have c12b1 : decide ((a0 : Int).toNat ≤ 11728124029610) = true := decide_eq_true c12
   clear c12
   obtain ⟨y144, hy144⟩ : ∃ y_ : List (S23), y_ = (List.replicate (a0 : Int).toNat z23) := ⟨_, rfl⟩
   replace H : (grapevinelaw06_EpochParts.l0 kj4 a0 a1 y144 (y144.length : Int) 0) = some r := by first | (rw [hy144]; with_reducible exact H) | (have H2_ := (Option.bind_some _ _).symm.trans H; rw [hy144]; with_reducible exact H2_) | (have H2_ := (Option.bind_some _ _).symm.trans H; with_reducible exact H2_) | with_reducible exact H | (rw [hy144]; exact H) | exact H
   have Ny144 := Aside0.mk hy144
   clear hy144
   have H' := Aside0.mk H
   clear H
   go_wp2_with (first | ((with_reducible refine gate_dst (N := 32) rfl ?_); refine Kd.R_make k23 _ 23 rfl (N := 32) rfl 32 _ _ rfl a0 rfl rfl Try.underlying32 (.agg #[(.int .i64 0), (.int .i64 0), (.int .i64 0)]) 24 info23 rfl (by decide) (by omega) z23 (ok := fun _ => True) (okp := fun _ => True) (k23_mkM _ _ _ z23 ) (fun _ hk => hk) trivial (of_decide_eq_true (by first | (with_reducible assumption) | assumption)) (Nat.le_trans (Nat.mul_le_mul_right _ (of_decide_eq_true (by first | (with_reducible assumption) | assumption) : a0.toNat ≤ 11728124029610)) (by omega)) (Below.refl _ _) (Nat.le_refl _) ?_; intro v145 w13 ho14 hb hg_ hnew_; clear hg_ hnew_; (first | rw [← Ny144.out] at ho14 | (simp only [Int.reduceToNat] at ho14; rw [← Ny144.out] at ho14)); have n0_ := Aside0.mk (Kd.R_lower ho14 (below_size (by repeat (first | (with_reducible first | exact HB.out | apply below_alloc | apply pw_below_drewN | apply below_drew1) | exact HB.out)))); have n1_ := Aside0.mk (below_step (by repeat (first | (with_reducible first | exact HB.out | apply below_alloc | apply pw_below_drewN | apply below_drew1) | exact HB.out)) hb); clear HB; have HO146 := n0_; have HB := n1_; clear n0_ n1_; clear hb ho14; obtain ⟨Ao15, co15, eo15⟩ := Kd.R_slice HO146.out; subst eo15))
   go_loopg [35] kj4 (fun kq v35 w' => ∃ (x5_2 : List (S23)) (x35_2 : Int), v35 = .int .i64 x35_2 ∧ Aside0 (grapevinelaw06_EpochParts.l0 kq a0 a1 x5_2 (y144.length : Int) x35_2 = some r) ∧ Aside0 (kq ≤ kj4) ∧ Aside0 (Kd.R k23 23 w' w.heap.size (fun _ => True) (.slice Ao15 y144.length co15) x5_2) ∧ Aside0 (Below w.heap.size w w'))
   case atStart => exact ⟨(y144), (0), (by first | rfl | (simp; done) | (simp [*]; done)), H', ⟨Nat.le_refl _⟩, ⟨by (with_reducible repeat (first | apply Kd.R_alloc | apply Kd.R_drewN | apply Kd.R_drew)); exact HO146.out⟩, ⟨by repeat (first | (with_reducible first | exact HB.out | apply below_alloc | apply pw_below_drewN | apply below_drew1) | exact HB.out)⟩⟩
   case round =>
    clear H'
    try clear c1
    try clear p2
    try clear c4
    try clear c7
    try clear c7b0
    try clear c8
    try clear c8b0
    try clear c9
    try clear c9b0
    try clear c10
    try clear c11
    try clear c11b0
    try clear c11b1
    try clear c12
    try clear c12b0
    try clear c12b1
    try clear p2
    obtain ⟨x5_2, x35_2, rfl, HA, HK2, HO_5, HB⟩ := hrel
    have hl5_2 := (Kd.R_reads' HO_5.out).1
    rw [hl5_2] at HO_5
    (try simp only [hl5_2])
    cases gk with
    | zero => exact absurd HA.out (by simp [grapevinelaw06_EpochParts.l0])
    | succ k2 =>
     have H := HA.out
     clear HA
     simp only [grapevinelaw06_EpochParts.l0] at H
     by_cases c16 : x35_2 < (y144.length : Int)
     ·rw [if_pos c16] at H
      have c16b0 : decide (x35_2 < (y144.length : Int)) = true := decide_eq_true c16
      have c16b9 := c16b0
      (try simp only [hl5_2] at c16b9)
      (try simp only [hl5_3] at c16b9)
      (try simp only [hl5_4] at c16b9)
      (try simp only [hl5_5] at c16b9)
      clear c16
      by_cases c17 : 0 ≤ x35_2
      rotate_left
      ·rw [if_neg c17] at H
       exact absurd H (by simp)
      rw [if_pos c17] at H
      have c17b0 : decide (0 ≤ x35_2) = true := decide_eq_true c17
      clear c17
      by_cases c18 : x35_2 < (x5_2.length : Int)
      rotate_left
      ·rw [if_neg c18] at H
       exact absurd H (by simp)
      rw [if_pos c18] at H
      have c18b0 : decide (x35_2 < (x5_2.length : Int)) = true := decide_eq_true c18
      have c18b9 := c18b0
      (try simp only [hl5_2] at c18b9)
      (try simp only [hl5_3] at c18b9)
      (try simp only [hl5_4] at c18b9)
      (try simp only [hl5_5] at c18b9)
      clear c18
      obtain ⟨y147, hy147⟩ : ∃ y_ : List (S23), y_ = (x5_2.set (x35_2 : Int).toNat (⟨a1, 0, a1⟩ : S23)) := ⟨_, rfl⟩
      replace H : (grapevinelaw06_EpochParts.l0 k2 a0 a1 y147 (y144.length : Int) (wrap64 (x35_2 + 1))) = some r := by first | (rw [hy147]; with_reducible exact H) | (have H2_ := (Option.bind_some _ _).symm.trans H; rw [hy147]; with_reducible exact H2_) | (have H2_ := (Option.bind_some _ _).symm.trans H; with_reducible exact H2_) | with_reducible exact H | (rw [hy147]; exact H) | exact H
      have Ny147 := Aside0.mk hy147
      clear hy147
      have H' := Aside0.mk H
      clear H
      have p19 : 0 ≤ (x35_2 : Int) := of_decide_eq_true (by first | (with_reducible assumption) | assumption)
      have q19 : (x35_2 : Int) < ((x5_2.length : Int) : Int) := of_decide_eq_true (by first | (with_reducible assumption) | assumption)
      obtain ⟨go19, co19, eo19, gb19, gl19, cl19, HG19⟩ := Kd.R_form HO_5.out (by omega)
      (first | cases eo19 | (injection eo19 with ea_ en_ ec_; (first | subst ea_ | (injection ea_ with ea_; subst ea_)); subst ec_; clear en_))
      have GB19 := Aside0.mk gb19
      have GG19 := Aside0.mk HG19
      clear gb19 gl19 HG19
      obtain ⟨ce19, hcl19, hM19, hcc19, hfr19⟩ := Kd.R_elem HO_5.out z23 (x35_2 : Int) p19 q19
      obtain rfl := k23_openM hM19
      have hx19_0 : wr.cell? ⟨go19, (x35_2 : Int).toNat * 3, none⟩ = some (.int .i64 ((rd_T23 x5_2 x35_2).f0)) := hcc19 0 _ rfl
      have hx19_1 : wr.cell? ⟨go19, (x35_2 : Int).toNat * 3 + 1, none⟩ = some (.int .i64 ((rd_T23 x5_2 x35_2).f1)) := hcc19 1 _ rfl
      have hx19_2 : wr.cell? ⟨go19, (x35_2 : Int).toNat * 3 + 2, none⟩ = some (.int .i64 ((rd_T23 x5_2 x35_2).f2)) := hcc19 2 _ rfl
      have hf19_0 : wr.frozen? ⟨go19, (x35_2 : Int).toNat * 3, none⟩ = false := hfr19 0
      have hf19_1 : wr.frozen? ⟨go19, (x35_2 : Int).toNat * 3 + 1, none⟩ = false := hfr19 1
      have hf19_2 : wr.frozen? ⟨go19, (x35_2 : Int).toNat * 3 + 2, none⟩ = false := hfr19 2
      clear hcl19 hcc19 hfr19 hM19
      replace p19 := eq_true p19
      replace q19 := eq_true q19
      have HX20 := Aside0.mk (show Kd.R k23 23 wr w.heap.size (fun _ => True) (.slice (some ⟨go19, 0, none⟩) x5_2.length co15) x5_2 from (by (with_reducible repeat (first | apply Kd.R_alloc | apply Kd.R_drewN | apply Kd.R_drew)); exact HO_5.out))
      obtain ⟨ce20, hcl20, hM20, hcc20, hfr20⟩ := Kd.R_elem HX20.out z23 (x35_2 : Int) (of_decide_eq_true (by first | (with_reducible assumption) | assumption)) (by have h_ : (x35_2 : Int) < ((x5_2.length : Int) : Int) := of_decide_eq_true (by first | (with_reducible assumption) | assumption); first | exact h_ | (have e_ := (Kd.R_reads' HO_5.out).1; omega) | simpa using h_)
      obtain rfl := k23_openM hM20
      have HP20 := Kd.R_seg HX20.out (x35_2 : Int) (of_decide_eq_true (by first | (with_reducible assumption) | assumption)) (by have h_ : (x35_2 : Int) < ((x5_2.length : Int) : Int) := of_decide_eq_true (by first | (with_reducible assumption) | assumption); first | exact h_ | (have e_ := (Kd.R_reads' HO_5.out).1; omega) | simpa using h_) (seg := [.int .i64 a1, .int .i64 0, .int .i64 a1]) (j := 0) hcl20 hcc20 (show 3 ≤ 3 from by decide) (x' := (⟨a1, 0, a1⟩ : S23)) (k23_mkM _ _ _ (⟨a1, 0, a1⟩ : S23) ) (fun _ hk => hk)
      have hx20_0 := hcc20 0 _ rfl
      (try simp only [show (k23).sz = 3 from rfl, Nat.mul_one, Nat.add_zero] at hx20_0)
      have hf20_0 := hfr20 0
      (try simp only [show (k23).sz = 3 from rfl, Nat.mul_one, Nat.add_zero] at hf20_0)
      have hx20_1 := hcc20 1 _ rfl
      (try simp only [show (k23).sz = 3 from rfl, Nat.mul_one, Nat.add_zero] at hx20_1)
      have hf20_1 := hfr20 1
      (try simp only [show (k23).sz = 3 from rfl, Nat.mul_one, Nat.add_zero] at hf20_1)
      have hx20_2 := hcc20 2 _ rfl
      (try simp only [show (k23).sz = 3 from rfl, Nat.mul_one, Nat.add_zero] at hx20_2)
      have hf20_2 := hfr20 2
      (try simp only [show (k23).sz = 3 from rfl, Nat.mul_one, Nat.add_zero] at hf20_2)
      clear hcl20 hcc20 hfr20 hM20
      go_wp2_with (first | ((with_reducible refine gate_store (t := 23) (p := 43) rfl ?_); refine store_event (t := 23) (p := 43) (v := ?vo_w21) (w1 := (((wr.setCell ⟨go19, (x35_2 : Int).toNat * 3, none⟩ (.int .i64 a1)).setCell ⟨go19, (x35_2 : Int).toNat * 3 + 1, none⟩ (.int .i64 0)).setCell ⟨go19, (x35_2 : Int).toNat * 3 + 2, none⟩ (.int .i64 a1))) ?hg ?ho ?hn ?hr ?_; (case ho => rfl); (case hg => rfl); (case hn => rfl); (case hr => first | (go_simp; done) | (go_simp; rfl)); intro w21 hw; have hg : wr.grownBy w21 (some go19) := (by rw [hw]; exact HP20.2); have hp_ : Kd.R k23 23 w21 w.heap.size (fun _ => True) (.slice (some ⟨go19, 0, none⟩) x5_2.length co15) y147 := (by rw [hw, Ny147.out]; exact HP20.1); clear HP20; have n0_ := Aside0.mk (hp_); have n1_ := Aside0.mk ((by rw [hw]; exact below_set (below_set (below_set (HB.out) GB19.out) GB19.out) GB19.out : Below w.heap.size w w21)); clear HO_5; clear HB; have HO_5 := n0_; have HB := n1_; clear n0_ n1_; clear hg hw hp_))
      (try simp only [← hl5_2])
      go_roundg k2
      case measure => have := HJ4.out; have := HK2.out; omega
      case rel => exact ⟨(y147), (wrap64 (x35_2 + 1)), (by first | rfl | (simp; done) | (simp [*]; done)), H', ⟨by have := HJ4.out; have := HK2.out; omega⟩, ⟨by (try simp only [hl5_2]); (with_reducible repeat (first | apply Kd.R_alloc | apply Kd.R_drewN | apply Kd.R_drew)); exact HO_5.out⟩, ⟨by repeat (first | (with_reducible first | exact HB.out | apply below_alloc | apply pw_below_drewN | apply below_drew1) | exact HB.out)⟩⟩
     rw [if_neg c16] at H
     have c16b0 : decide (x35_2 < (y144.length : Int)) = false := decide_eq_false c16
     have c16b9 := c16b0
     (try simp only [hl5_2] at c16b9)
     (try simp only [hl5_3] at c16b9)
     (try simp only [hl5_4] at c16b9)
     (try simp only [hl5_5] at c16b9)
     clear c16
     have H' := Aside0.mk H
     clear H
     go_wp2
     go_loopg [48] k2 (fun kq v48 w' => ∃ (x5_3 : List (S23)) (x48_3 : Int), v48 = .int .i64 x48_3 ∧ Aside0 (grapevinelaw06_EpochParts.l1 kq a0 a1 x5_3 (wrap64 (a0 * a0)) x48_3 = some r) ∧ Aside0 (kq ≤ k2) ∧ Aside0 (Kd.R k23 23 w' w.heap.size (fun _ => True) (.slice Ao15 x5_2.length co15) x5_3) ∧ Aside0 (Below w.heap.size w w'))
     case atStart => exact ⟨(x5_2), (0), (by first | rfl | (simp; done) | (simp [*]; done)), H', ⟨Nat.le_refl _⟩, ⟨by (try simp only [hl5_2]); (with_reducible repeat (first | apply Kd.R_alloc | apply Kd.R_drewN | apply Kd.R_drew)); exact HO_5.out⟩, ⟨by repeat (first | (with_reducible first | exact HB.out | apply below_alloc | apply pw_below_drewN | apply below_drew1) | exact HB.out)⟩⟩
     case round =>
      clear H'
      try clear c1
      try clear p1
      try clear q1
      try clear hx1
      try clear c2
      try clear p2
      try clear hx2
      try clear hf2
      try clear c4
      try clear p6
      try clear c7
      try clear c7b0
      try clear c8
      try clear c8b0
      try clear c9
      try clear c9b0
      try clear c10
      try clear c11
      try clear c11b0
      try clear c11b1
      try clear c12
      try clear c12b0
      try clear c12b1
      try clear c16
      try clear c16b0
      try clear c17
      try clear c17b0
      try clear c18
      try clear c18b0
      try clear c19
      try clear p19
      try clear q19
      try clear hx19
      try clear hf19
      try clear c20
      try clear hx20
      try clear hf20
      try clear hx19_0
      try clear hx19_1
      try clear hx19_2
      try clear hx20_0
      try clear hx20_1
      try clear hx20_2
      try clear p19
      try clear p2
      try clear q19
      obtain ⟨x5_3, x48_3, rfl, HA, HK3, HO_5, HB⟩ := hrel
      have hl5_3 := (Kd.R_reads' HO_5.out).1
      rw [hl5_3] at HO_5
      (try simp only [hl5_3])
      cases gk with
      | zero => exact absurd HA.out (by simp [grapevinelaw06_EpochParts.l1])
      | succ k3 =>
       have H := HA.out
       clear HA
       simp only [grapevinelaw06_EpochParts.l1] at H
       by_cases c22 : x48_3 < (wrap64 (a0 * a0))
       rotate_left
       ·rw [if_neg c22] at H
        have c22b0 : decide (x48_3 < (wrap64 (a0 * a0))) = false := decide_eq_false c22
        clear c22
        have H' := Aside0.mk H
        clear H
        go_wp2
        go_loopg [113] k3 (fun kq v113 w' => ∃ (x113_4 : Int), v113 = .int .i64 x113_4 ∧ Aside0 (grapevinelaw06_EpochParts.l4 kq a0 a1 x5_3 (x5_3.length : Int) x113_4 = some r) ∧ Aside0 (kq ≤ k3) ∧ Aside0 (Kd.R k23 23 w' w.heap.size (fun _ => True) (.slice Ao15 x5_3.length co15) x5_3) ∧ Aside0 (Below w.heap.size w w'))
        case atStart => exact ⟨(0), (by first | rfl | (simp; done) | (simp [*]; done)), H', ⟨Nat.le_refl _⟩, ⟨by (try simp only [hl5_2]); (try simp only [hl5_3]); (with_reducible repeat (first | apply Kd.R_alloc | apply Kd.R_drewN | apply Kd.R_drew)); exact HO_5.out⟩, ⟨by repeat (first | (with_reducible first | exact HB.out | apply below_alloc | apply pw_below_drewN | apply below_drew1) | exact HB.out)⟩⟩
        case round =>
         clear H'
         try clear c1
         try clear p1
         try clear q1
         try clear hx1
         try clear c2
         try clear p2
         try clear c3
         try clear p3
         try clear q3
         try clear hx3
         try clear hf3
         try clear p6
         try clear c8
         try clear hx8
         try clear hf8
         try clear p14
         try clear q14
         try clear hx14
         try clear p15
         try clear q15
         try clear hx15
         try clear c17
         try clear c18
         try clear c22
         try clear c22b0
         try clear c23
         try clear c23b0
         try clear c24
         try clear c24b0
         try clear c25
         try clear c26
         try clear c27
         try clear c28
         try clear c30
         try clear c30b0
         try clear c30b1
         try clear c31
         try clear p31
         try clear q31
         try clear hx31
         try clear hf31
         try clear p64
         try clear c82
         try clear hx82
         try clear hf82
         try clear hcz81_0
         try clear hcz81_1
         try clear hcz81_2
         try clear hfz81_0
         try clear hfz81_1
         try clear hfz81_2
         try clear hx148_0
         try clear hx148_1
         try clear hx148_2
         try clear hx149_0
         try clear hx149_1
         try clear hx149_2
         try clear hx156_0
         try clear hx156_1
         try clear hx156_2
         try clear hx157_0
         try clear hx157_1
         try clear hx157_2
         try clear hx31_0
         try clear hx31_1
         try clear hx31_2
         try clear hx82_0
         try clear hx82_1
         try clear hx82_2
         try clear p148
         try clear p149
         try clear p156
         try clear p157
         try clear p31
         try clear q148
         try clear q149
         try clear q156
         try clear q157
         try clear q31
         obtain ⟨x113_4, rfl, HA, HK4, HO_5, HB⟩ := hrel
         cases gk with
         | zero => exact absurd HA.out (by simp [grapevinelaw06_EpochParts.l4])
         | succ k4 =>
          have H := HA.out
          clear HA
          simp only [grapevinelaw06_EpochParts.l4] at H
          by_cases c92 : x113_4 < (x5_3.length : Int)
          rotate_left
          ·rw [if_neg c92] at H
           have c92b0 : decide (x113_4 < (x5_3.length : Int)) = false := decide_eq_false c92
           have c92b9 := c92b0
           (try simp only [hl5_2] at c92b9)
           (try simp only [hl5_3] at c92b9)
           (try simp only [hl5_4] at c92b9)
           (try simp only [hl5_5] at c92b9)
           clear c92
           obtain ⟨ji101, hji101⟩ : ∃ j_ : Int, (wrap64 (a0 - 1)) = j_ := ⟨_, rfl⟩
           replace H : (if 0 ≤ (ji101) then (if (ji101) < (x5_3.length : Int) then (some (((rd_T23 x5_3 (ji101)).f2) == a1)) else (none)) else (none)) = some r := by first | (rw [hji101] at H; exact H) | (simp only [hji101] at H ⊢; exact H)
           have hji101w : (IntKind.i64.wrap (a0 - 1)) = ji101 := (i64_w _).trans hji101
           by_cases c102 : 0 ≤ (ji101)
           rotate_left
           ·rw [if_neg c102] at H
            exact absurd H (by simp)
           rw [if_pos c102] at H
           have c102b0 : decide (0 ≤ (ji101)) = true := decide_eq_true c102
           clear c102
           by_cases c103 : (ji101) < (x5_3.length : Int)
           rotate_left
           ·rw [if_neg c103] at H
            exact absurd H (by simp)
           rw [if_pos c103] at H
           have c103b0 : decide ((ji101) < (x5_3.length : Int)) = true := decide_eq_true c103
           have c103b9 := c103b0
           (try simp only [hl5_2] at c103b9)
           (try simp only [hl5_3] at c103b9)
           (try simp only [hl5_4] at c103b9)
           (try simp only [hl5_5] at c103b9)
           clear c103
           obtain rfl := Option.some.inj H
           have p166 : 0 ≤ ((ji101) : Int) := of_decide_eq_true (by first | (with_reducible assumption) | assumption)
           have q166 : (ji101) < (x5_3.length : Int) := of_decide_eq_true (by first | (with_reducible assumption) | assumption)
           obtain ⟨ad166, e166, hx166_0, hx166_1, hx166_2⟩ := at_T23 (Kd.R_reads' HO_5.out).2.2 (ji101) p166 q166
           cases e166
           replace p166 := eq_true p166
           replace q166 := eq_true q166
           go_wp2
           go_ret
           exact ⟨by first | rfl | (simp [errW_none, errW_some] <;> rfl) | (simp only [← hji101]; first | rfl | (simp [errW_none, errW_some] <;> rfl)) | (simp [*, errW_none, errW_some] <;> rfl), by repeat (first | (with_reducible first | exact HB.out | apply below_alloc | apply pw_below_drewN | apply below_drew1) | exact HB.out)⟩
          rw [if_pos c92] at H
          have c92b0 : decide (x113_4 < (x5_3.length : Int)) = true := decide_eq_true c92
          have c92b9 := c92b0
          (try simp only [hl5_2] at c92b9)
          (try simp only [hl5_3] at c92b9)
          (try simp only [hl5_4] at c92b9)
          (try simp only [hl5_5] at c92b9)
          clear c92
          have H' := Aside0.mk H
          clear H
          go_wp2
          go_loopg [117] k4 (fun kq v117 w' => ∃ (x117_5 : Int), v117 = .int .i64 x117_5 ∧ Aside0 (grapevinelaw06_EpochParts.l5 kq a0 a1 x5_3 x113_4 (x5_3.length : Int) x113_4 x113_4 x117_5 = some r) ∧ Aside0 (kq ≤ k4) ∧ Aside0 (Kd.R k23 23 w' w.heap.size (fun _ => True) (.slice Ao15 x5_3.length co15) x5_3) ∧ Aside0 (Below w.heap.size w w'))
          case atStart => exact ⟨(0), (by first | rfl | (simp; done) | (simp [*]; done)), H', ⟨Nat.le_refl _⟩, ⟨by (try simp only [hl5_2]); (try simp only [hl5_3]); (with_reducible repeat (first | apply Kd.R_alloc | apply Kd.R_drewN | apply Kd.R_drew)); exact HO_5.out⟩, ⟨by repeat (first | (with_reducible first | exact HB.out | apply below_alloc | apply pw_below_drewN | apply below_drew1) | exact HB.out)⟩⟩
          case round =>
           clear H'
           try clear c1
           try clear p1
           try clear q1
           try clear hx1
           try clear c2
           try clear p2
           try clear c3
           try clear p3
           try clear q3
           try clear hx3
           try clear hf3
           try clear p6
           try clear c8
           try clear hx8
           try clear hf8
           try clear c9
           try clear p14
           try clear q14
           try clear hx14
           try clear p15
           try clear q15
           try clear hx15
           try clear c17
           try clear c18
           try clear c22
           try clear c22b0
           try clear c23
           try clear c23b0
           try clear c24
           try clear c24b0
           try clear c25
           try clear c26
           try clear c27
           try clear c28
           try clear c30
           try clear c30b0
           try clear c30b1
           try clear c31
           try clear p31
           try clear q31
           try clear hx31
           try clear hf31
           try clear p64
           try clear c82
           try clear hx82
           try clear hf82
           try clear c92
           try clear c92b0
           try clear hcz81_0
           try clear hcz81_1
           try clear hcz81_2
           try clear hfz81_0
           try clear hfz81_1
           try clear hfz81_2
           try clear hx148_0
           try clear hx148_1
           try clear hx148_2
           try clear hx149_0
           try clear hx149_1
           try clear hx149_2
           try clear hx156_0
           try clear hx156_1
           try clear hx156_2
           try clear hx157_0
           try clear hx157_1
           try clear hx157_2
           try clear hx31_0
           try clear hx31_1
           try clear hx31_2
           try clear hx82_0
           try clear hx82_1
           try clear hx82_2
           try clear p1
           try clear p14
           try clear p148
           try clear p149
           try clear p15
           try clear p156
           try clear p157
           try clear p2
           try clear p3
           try clear p31
           try clear p6
           try clear p64
           try clear q1
           try clear q14
           try clear q148
           try clear q149
           try clear q15
           try clear q156
           try clear q157
           try clear q3
           try clear q31
           obtain ⟨x117_5, rfl, HA, HK5, HO_5, HB⟩ := hrel
           cases gk with
           | zero => exact absurd HA.out (by simp [grapevinelaw06_EpochParts.l5])
           | succ k5 =>
            have H := HA.out
            clear HA
            simp only [grapevinelaw06_EpochParts.l5] at H
            by_cases c93 : x117_5 < x113_4
            rotate_left
            ·rw [if_neg c93] at H
             have c93b0 : decide (x117_5 < x113_4) = false := decide_eq_false c93
             clear c93
             have H' := Aside0.mk H
             clear H
             go_wp2
             go_roundg k5
             case measure => have := HJ4.out; have := HK2.out; have := HK3.out; have := HK4.out; have := HK5.out; omega
             case rel => exact ⟨(wrap64 (x113_4 + 1)), (by first | rfl | (simp; done) | (simp [*]; done)), H', ⟨by have := HJ4.out; have := HK2.out; have := HK3.out; have := HK4.out; have := HK5.out; omega⟩, ⟨by (try simp only [hl5_2]); (try simp only [hl5_3]); (with_reducible repeat (first | apply Kd.R_alloc | apply Kd.R_drewN | apply Kd.R_drew)); exact HO_5.out⟩, ⟨by repeat (first | (with_reducible first | exact HB.out | apply below_alloc | apply pw_below_drewN | apply below_drew1) | exact HB.out)⟩⟩
            rw [if_pos c93] at H
            have c93b0 : decide (x117_5 < x113_4) = true := decide_eq_true c93
            clear c93
            by_cases c94 : 0 ≤ x113_4
            rotate_left
            ·rw [if_neg c94] at H
             exact absurd H (by simp)
            rw [if_pos c94] at H
            have c94b0 : decide (0 ≤ x113_4) = true := decide_eq_true c94
            clear c94
            by_cases c95 : x113_4 < (x5_3.length : Int)
            rotate_left
            ·rw [if_neg c95] at H
             exact absurd H (by simp)
            rw [if_pos c95] at H
            have c95b0 : decide (x113_4 < (x5_3.length : Int)) = true := decide_eq_true c95
            have c95b9 := c95b0
            (try simp only [hl5_2] at c95b9)
            (try simp only [hl5_3] at c95b9)
            (try simp only [hl5_4] at c95b9)
            (try simp only [hl5_5] at c95b9)
            clear c95
            by_cases c96 : 0 ≤ x117_5
            rotate_left
            ·rw [if_neg c96] at H
             exact absurd H (by simp)
            rw [if_pos c96] at H
            have c96b0 : decide (0 ≤ x117_5) = true := decide_eq_true c96
            clear c96
            by_cases c97 : x117_5 < (x5_3.length : Int)
            rotate_left
            ·rw [if_neg c97] at H
             exact absurd H (by simp)
            rw [if_pos c97] at H
            have c97b0 : decide (x117_5 < (x5_3.length : Int)) = true := decide_eq_true c97
            have c97b9 := c97b0
            (try simp only [hl5_2] at c97b9)
            (try simp only [hl5_3] at c97b9)
            (try simp only [hl5_4] at c97b9)
            (try simp only [hl5_5] at c97b9)
            clear c97
            by_cases c98 : ((rd_T23 x5_3 x113_4).f2) = ((rd_T23 x5_3 x117_5).f2)
            ·rw [if_pos c98] at H
             have c98b0 : (((rd_T23 x5_3 x113_4).f2) == ((rd_T23 x5_3 x117_5).f2)) = true := beq_iff_eq.mpr c98
             have c98b1 : (((rd_T23 x5_3 x113_4).f2) != ((rd_T23 x5_3 x117_5).f2)) = false := bne_eq_false_iff_eq.mpr c98
             clear c98
             obtain rfl := Option.some.inj H
             try go_wp2
             have n0_ := Aside0.mk (Kd.R_drew HO_5.out)
             have n1_ := Aside0.mk (below_drew1 HB.out)
             clear HO_5
             clear HB
             have HO_5 := n0_
             have HB := n1_
             clear n0_ n1_
             have p167 : 0 ≤ (x113_4 : Int) := of_decide_eq_true (by first | (with_reducible assumption) | assumption)
             have q167 : x113_4 < (x5_3.length : Int) := of_decide_eq_true (by first | (with_reducible assumption) | assumption)
             obtain ⟨ad167, e167, hx167_0, hx167_1, hx167_2⟩ := at_T23 (Kd.R_reads' HO_5.out).2.2 x113_4 p167 q167
             cases e167
             replace p167 := eq_true p167
             replace q167 := eq_true q167
             have p168 : 0 ≤ (x117_5 : Int) := of_decide_eq_true (by first | (with_reducible assumption) | assumption)
             have q168 : x117_5 < (x5_3.length : Int) := of_decide_eq_true (by first | (with_reducible assumption) | assumption)
             obtain ⟨ad168, e168, hx168_0, hx168_1, hx168_2⟩ := at_T23 (Kd.R_reads' HO_5.out).2.2 x117_5 p168 q168
             obtain rfl : ad167 = ad168 := (by injection e168)
             replace p168 := eq_true p168
             replace q168 := eq_true q168
             refine start_ (n := 11) (S := fun w' => w'.cell? (ad167.add ((x113_4).toNat * 3)) = some (.int .i64 ((rd_T23 x5_3 x113_4).f0)) ∧ w'.cell? ⟨(ad167.add ((x113_4).toNat * 3)).block, (ad167.add ((x113_4).toNat * 3)).off + 1, none⟩ = some (.int .i64 ((rd_T23 x5_3 x113_4).f1)) ∧ w'.cell? ⟨(ad167.add ((x113_4).toNat * 3)).block, (ad167.add ((x113_4).toNat * 3)).off + 2, none⟩ = some (.int .i64 ((rd_T23 x5_3 x113_4).f2)) ∧ w'.cell? (ad167.add ((x117_5).toNat * 3)) = some (.int .i64 ((rd_T23 x5_3 x117_5).f0)) ∧ w'.cell? ⟨(ad167.add ((x117_5).toNat * 3)).block, (ad167.add ((x117_5).toNat * 3)).off + 1, none⟩ = some (.int .i64 ((rd_T23 x5_3 x117_5).f1)) ∧ w'.cell? ⟨(ad167.add ((x117_5).toNat * 3)).block, (ad167.add ((x117_5).toNat * 3)).off + 2, none⟩ = some (.int .i64 ((rd_T23 x5_3 x117_5).f2))) (ds := []) #[false, false, false, false, false, false, false, false, false, false, false] (by kernel_rfl) rfl rfl ⟨hx167_0, hx167_1, hx167_2, hx168_0, hx168_1, hx168_2⟩ (fun hHeld => ?_); refine with_tabW grapevinelaw06_EpochParts.tab37 grapevinelaw06_EpochParts.bits37 (fun HT_ HW_ => ?_)
             generalize wr.drew = w99 at HO_5 HB hx167_0 hx167_1 hx167_2 hx168_0 hx168_1 hx168_2 hHeld ⊢
             refine pure_ (i := 0) (N := some 120) (v := ?_) (a' := ?_) #[true, false, false, false, false, false, false, false, false, false, false] rfl rfl (any_of HT_.out (by kernel_rfl)) (fun _ _ _ h => h) (Or.inl ⟨by rfl, ?_⟩) ?_ ?_
             rotate_left
             ·intro w'
              go_simp
              with_reducible rfl
             rotate_left
             ·simp only [Act.put, List.setIfInBounds_toArray, List.set_cons_zero, List.set_cons_succ, i64_w, i32_w]
              rfl
             refine pure_ (i := 1) (N := some 121) (v := ?_) (a' := ?_) #[true, true, false, false, false, false, false, false, false, false, false] rfl rfl (any_of HT_.out (by kernel_rfl)) (fun _ _ _ h => h) (Or.inl ⟨by rfl, ?_⟩) ?_ ?_
             rotate_left
             ·intro w'
              go_simp
              with_reducible rfl
             rotate_left
             ·simp only [Act.put, List.setIfInBounds_toArray, List.set_cons_zero, List.set_cons_succ, i64_w, i32_w]
              rfl
             refine pure_ (i := 2) (N := some 122) (v := ?_) (a' := ?_) #[true, true, true, false, false, false, false, false, false, false, false] rfl rfl (any_of HT_.out (by kernel_rfl)) (fun _ _ _ h => h) (Or.inl ⟨by rfl, ?_⟩) ?_ ?_
             rotate_left
             ·intro w'
              go_simp
              with_reducible rfl
             rotate_left
             ·simp only [Act.put, List.setIfInBounds_toArray, List.set_cons_zero, List.set_cons_succ, i64_w, i32_w]
              rfl
             refine pure_ (i := 3) (N := some 123) (v := ?_) (a' := ?_) #[true, true, true, true, false, false, false, false, false, false, false] rfl rfl (any_of HT_.out (by kernel_rfl)) (fun _ _ _ h => h) (Or.inl ⟨by rfl, ?_⟩) ?_ ?_
             rotate_left
             ·intro w'
              go_simp
              with_reducible rfl
             rotate_left
             ·simp only [Act.put, List.setIfInBounds_toArray, List.set_cons_zero, List.set_cons_succ, i64_w, i32_w]
              rfl
             refine pure_ (i := 5) (N := some 125) (v := ?_) (a' := ?_) #[true, true, true, true, false, true, false, false, false, false, false] rfl rfl (any_of HT_.out (by kernel_rfl)) (fun _ _ _ h => h) (Or.inl ⟨by rfl, ?_⟩) ?_ ?_
             rotate_left
             ·intro w'
              go_simp
              with_reducible rfl
             rotate_left
             ·simp only [Act.put, List.setIfInBounds_toArray, List.set_cons_zero, List.set_cons_succ, i64_w, i32_w]
              rfl
             refine pure_ (i := 6) (N := some 126) (v := ?_) (a' := ?_) #[true, true, true, true, false, true, true, false, false, false, false] rfl rfl (any_of HT_.out (by kernel_rfl)) (fun _ _ _ h => h) (Or.inl ⟨by rfl, ?_⟩) ?_ ?_
             rotate_left
             ·intro w'
              go_simp
              with_reducible rfl
             rotate_left
             ·simp only [Act.put, List.setIfInBounds_toArray, List.set_cons_zero, List.set_cons_succ, i64_w, i32_w]
              rfl
             refine pure_ (i := 7) (N := some 127) (v := ?_) (a' := ?_) #[true, true, true, true, false, true, true, true, false, false, false] rfl rfl (any_of HT_.out (by kernel_rfl)) (fun _ _ _ h => h) (Or.inl ⟨by rfl, ?_⟩) ?_ ?_
             rotate_left
             ·intro w'
              go_simp
              with_reducible rfl
             rotate_left
             ·simp only [Act.put, List.setIfInBounds_toArray, List.set_cons_zero, List.set_cons_succ, i64_w, i32_w]
              rfl
             refine pure_ (i := 8) (N := some 128) (v := ?_) (a' := ?_) #[true, true, true, true, false, true, true, true, true, false, false] rfl rfl (any_of HT_.out (by kernel_rfl)) (fun _ _ _ h => h) (Or.inl ⟨by rfl, ?_⟩) ?_ ?_
             rotate_left
             ·intro w'
              go_simp
              with_reducible rfl
             rotate_left
             ·simp only [Act.put, List.setIfInBounds_toArray, List.set_cons_zero, List.set_cons_succ, i64_w, i32_w]
              rfl
             refine take_ (i := 4) (N := some 124) (v := ?_) (a' := ?_) #[true, true, true, true, true, true, true, true, true, false, false] rfl rfl (take_ofW HT_.out HW_.out (by kernel_rfl)) (fun _ _ _ h => h) (Or.inl ⟨by rfl, ?_⟩) hHeld ?_ ?_
             rotate_left
             ·rintro w' ⟨s0, s1, s2, s3, s4, s5⟩
              go_simp
              with_reducible rfl
             rotate_left
             ·simp only [Act.put, List.setIfInBounds_toArray, List.set_cons_zero, List.set_cons_succ, i64_w, i32_w]
              rfl
             refine take_ (i := 9) (N := some 129) (v := ?_) (a' := ?_) #[true, true, true, true, true, true, true, true, true, true, false] rfl rfl (take_ofW HT_.out HW_.out (by kernel_rfl)) (fun _ _ _ h => h) (Or.inl ⟨by rfl, ?_⟩) hHeld ?_ ?_
             rotate_left
             ·rintro w' ⟨s0, s1, s2, s3, s4, s5⟩
              go_simp
              with_reducible rfl
             rotate_left
             ·simp only [Act.put, List.setIfInBounds_toArray, List.set_cons_zero, List.set_cons_succ, i64_w, i32_w]
              rfl
             refine pure_ (i := 10) (N := some 130) (v := ?_) (a' := ?_) #[true, true, true, true, true, true, true, true, true, true, true] rfl rfl (any_of HT_.out (by kernel_rfl)) (fun _ _ _ h => h) (Or.inl ⟨by rfl, ?_⟩) ?_ ?_
             rotate_left
             ·intro w'
              go_simp
              with_reducible rfl
             rotate_left
             ·simp only [Act.put, List.setIfInBounds_toArray, List.set_cons_zero, List.set_cons_succ, i64_w, i32_w]
              rfl
             refine done_ (done_of HT_.out (by kernel_rfl)) ?_
             try go_wp2
             go_ret
             exact ⟨by first | rfl | (simp [errW_none, errW_some] <;> rfl) | (simp [*, errW_none, errW_some] <;> rfl), by repeat (first | (with_reducible first | exact HB.out | apply below_alloc | apply pw_below_drewN | apply below_drew1) | exact HB.out)⟩
            rw [if_neg c98] at H
            have c98b0 : (((rd_T23 x5_3 x113_4).f2) == ((rd_T23 x5_3 x117_5).f2)) = false := beq_eq_false_iff_ne.mpr c98
            have c98b1 : (((rd_T23 x5_3 x113_4).f2) != ((rd_T23 x5_3 x117_5).f2)) = true := bne_iff_ne.mpr c98
            have H' := Aside0.mk H
            clear H
            try go_wp2
            have n0_ := Aside0.mk (Kd.R_drew HO_5.out)
            have n1_ := Aside0.mk (below_drew1 HB.out)
            clear HO_5
            clear HB
            have HO_5 := n0_
            have HB := n1_
            clear n0_ n1_
            have p167 : 0 ≤ (x113_4 : Int) := of_decide_eq_true (by first | (with_reducible assumption) | assumption)
            have q167 : x113_4 < (x5_3.length : Int) := of_decide_eq_true (by first | (with_reducible assumption) | assumption)
            obtain ⟨ad167, e167, hx167_0, hx167_1, hx167_2⟩ := at_T23 (Kd.R_reads' HO_5.out).2.2 x113_4 p167 q167
            cases e167
            replace p167 := eq_true p167
            replace q167 := eq_true q167
            have p168 : 0 ≤ (x117_5 : Int) := of_decide_eq_true (by first | (with_reducible assumption) | assumption)
            have q168 : x117_5 < (x5_3.length : Int) := of_decide_eq_true (by first | (with_reducible assumption) | assumption)
            obtain ⟨ad168, e168, hx168_0, hx168_1, hx168_2⟩ := at_T23 (Kd.R_reads' HO_5.out).2.2 x117_5 p168 q168
            obtain rfl : ad167 = ad168 := (by injection e168)
            replace p168 := eq_true p168
            replace q168 := eq_true q168
            refine start_ (n := 11) (S := fun w' => w'.cell? (ad167.add ((x113_4).toNat * 3)) = some (.int .i64 ((rd_T23 x5_3 x113_4).f0)) ∧ w'.cell? ⟨(ad167.add ((x113_4).toNat * 3)).block, (ad167.add ((x113_4).toNat * 3)).off + 1, none⟩ = some (.int .i64 ((rd_T23 x5_3 x113_4).f1)) ∧ w'.cell? ⟨(ad167.add ((x113_4).toNat * 3)).block, (ad167.add ((x113_4).toNat * 3)).off + 2, none⟩ = some (.int .i64 ((rd_T23 x5_3 x113_4).f2)) ∧ w'.cell? (ad167.add ((x117_5).toNat * 3)) = some (.int .i64 ((rd_T23 x5_3 x117_5).f0)) ∧ w'.cell? ⟨(ad167.add ((x117_5).toNat * 3)).block, (ad167.add ((x117_5).toNat * 3)).off + 1, none⟩ = some (.int .i64 ((rd_T23 x5_3 x117_5).f1)) ∧ w'.cell? ⟨(ad167.add ((x117_5).toNat * 3)).block, (ad167.add ((x117_5).toNat * 3)).off + 2, none⟩ = some (.int .i64 ((rd_T23 x5_3 x117_5).f2))) (ds := []) #[false, false, false, false, false, false, false, false, false, false, false] (by kernel_rfl) rfl rfl ⟨hx167_0, hx167_1, hx167_2, hx168_0, hx168_1, hx168_2⟩ (fun hHeld => ?_); refine with_tabW grapevinelaw06_EpochParts.tab37 grapevinelaw06_EpochParts.bits37 (fun HT_ HW_ => ?_)
            generalize wr.drew = w100 at HO_5 HB hx167_0 hx167_1 hx167_2 hx168_0 hx168_1 hx168_2 hHeld ⊢
            refine pure_ (i := 0) (N := some 120) (v := ?_) (a' := ?_) #[true, false, false, false, false, false, false, false, false, false, false] rfl rfl (any_of HT_.out (by kernel_rfl)) (fun _ _ _ h => h) (Or.inl ⟨by rfl, ?_⟩) ?_ ?_
            rotate_left
            ·intro w'
             go_simp
             with_reducible rfl
            rotate_left
            ·simp only [Act.put, List.setIfInBounds_toArray, List.set_cons_zero, List.set_cons_succ, i64_w, i32_w]
             rfl
            refine pure_ (i := 1) (N := some 121) (v := ?_) (a' := ?_) #[true, true, false, false, false, false, false, false, false, false, false] rfl rfl (any_of HT_.out (by kernel_rfl)) (fun _ _ _ h => h) (Or.inl ⟨by rfl, ?_⟩) ?_ ?_
            rotate_left
            ·intro w'
             go_simp
             with_reducible rfl
            rotate_left
            ·simp only [Act.put, List.setIfInBounds_toArray, List.set_cons_zero, List.set_cons_succ, i64_w, i32_w]
             rfl
            refine pure_ (i := 2) (N := some 122) (v := ?_) (a' := ?_) #[true, true, true, false, false, false, false, false, false, false, false] rfl rfl (any_of HT_.out (by kernel_rfl)) (fun _ _ _ h => h) (Or.inl ⟨by rfl, ?_⟩) ?_ ?_
            rotate_left
            ·intro w'
             go_simp
             with_reducible rfl
            rotate_left
            ·simp only [Act.put, List.setIfInBounds_toArray, List.set_cons_zero, List.set_cons_succ, i64_w, i32_w]
             rfl
            refine pure_ (i := 3) (N := some 123) (v := ?_) (a' := ?_) #[true, true, true, true, false, false, false, false, false, false, false] rfl rfl (any_of HT_.out (by kernel_rfl)) (fun _ _ _ h => h) (Or.inl ⟨by rfl, ?_⟩) ?_ ?_
            rotate_left
            ·intro w'
             go_simp
             with_reducible rfl
            rotate_left
            ·simp only [Act.put, List.setIfInBounds_toArray, List.set_cons_zero, List.set_cons_succ, i64_w, i32_w]
             rfl
            refine pure_ (i := 5) (N := some 125) (v := ?_) (a' := ?_) #[true, true, true, true, false, true, false, false, false, false, false] rfl rfl (any_of HT_.out (by kernel_rfl)) (fun _ _ _ h => h) (Or.inl ⟨by rfl, ?_⟩) ?_ ?_
            rotate_left
            ·intro w'
             go_simp
             with_reducible rfl
            rotate_left
            ·simp only [Act.put, List.setIfInBounds_toArray, List.set_cons_zero, List.set_cons_succ, i64_w, i32_w]
             rfl
            refine pure_ (i := 6) (N := some 126) (v := ?_) (a' := ?_) #[true, true, true, true, false, true, true, false, false, false, false] rfl rfl (any_of HT_.out (by kernel_rfl)) (fun _ _ _ h => h) (Or.inl ⟨by rfl, ?_⟩) ?_ ?_
            rotate_left
            ·intro w'
             go_simp
             with_reducible rfl
            rotate_left
            ·simp only [Act.put, List.setIfInBounds_toArray, List.set_cons_zero, List.set_cons_succ, i64_w, i32_w]
             rfl
            refine pure_ (i := 7) (N := some 127) (v := ?_) (a' := ?_) #[true, true, true, true, false, true, true, true, false, false, false] rfl rfl (any_of HT_.out (by kernel_rfl)) (fun _ _ _ h => h) (Or.inl ⟨by rfl, ?_⟩) ?_ ?_
            rotate_left
            ·intro w'
             go_simp
             with_reducible rfl
            rotate_left
            ·simp only [Act.put, List.setIfInBounds_toArray, List.set_cons_zero, List.set_cons_succ, i64_w, i32_w]
             rfl
            refine pure_ (i := 8) (N := some 128) (v := ?_) (a' := ?_) #[true, true, true, true, false, true, true, true, true, false, false] rfl rfl (any_of HT_.out (by kernel_rfl)) (fun _ _ _ h => h) (Or.inl ⟨by rfl, ?_⟩) ?_ ?_
            rotate_left
            ·intro w'
             go_simp
             with_reducible rfl
            rotate_left
            ·simp only [Act.put, List.setIfInBounds_toArray, List.set_cons_zero, List.set_cons_succ, i64_w, i32_w]
             rfl
            refine take_ (i := 4) (N := some 124) (v := ?_) (a' := ?_) #[true, true, true, true, true, true, true, true, true, false, false] rfl rfl (take_ofW HT_.out HW_.out (by kernel_rfl)) (fun _ _ _ h => h) (Or.inl ⟨by rfl, ?_⟩) hHeld ?_ ?_
            rotate_left
            ·rintro w' ⟨s0, s1, s2, s3, s4, s5⟩
             go_simp
             with_reducible rfl
            rotate_left
            ·simp only [Act.put, List.setIfInBounds_toArray, List.set_cons_zero, List.set_cons_succ, i64_w, i32_w]
             rfl
            refine take_ (i := 9) (N := some 129) (v := ?_) (a' := ?_) #[true, true, true, true, true, true, true, true, true, true, false] rfl rfl (take_ofW HT_.out HW_.out (by kernel_rfl)) (fun _ _ _ h => h) (Or.inl ⟨by rfl, ?_⟩) hHeld ?_ ?_
            rotate_left
            ·rintro w' ⟨s0, s1, s2, s3, s4, s5⟩
             go_simp
             with_reducible rfl
            rotate_left
            ·simp only [Act.put, List.setIfInBounds_toArray, List.set_cons_zero, List.set_cons_succ, i64_w, i32_w]
             rfl
            refine pure_ (i := 10) (N := some 130) (v := ?_) (a' := ?_) #[true, true, true, true, true, true, true, true, true, true, true] rfl rfl (any_of HT_.out (by kernel_rfl)) (fun _ _ _ h => h) (Or.inl ⟨by rfl, ?_⟩) ?_ ?_
            rotate_left
            ·intro w'
             go_simp
             with_reducible rfl
            rotate_left
            ·simp only [Act.put, List.setIfInBounds_toArray, List.set_cons_zero, List.set_cons_succ, i64_w, i32_w]
             rfl
            refine done_ (done_of HT_.out (by kernel_rfl)) ?_
            try go_wp2
            go_roundg k5
            case measure => have := HJ4.out; have := HK2.out; have := HK3.out; have := HK4.out; have := HK5.out; omega
            case rel => exact ⟨(wrap64 (x117_5 + 1)), (by first | rfl | (simp; done) | (simp [*]; done)), H', ⟨by have := HJ4.out; have := HK2.out; have := HK3.out; have := HK4.out; have := HK5.out; omega⟩, ⟨by (try simp only [hl5_2]); (try simp only [hl5_3]); (with_reducible repeat (first | apply Kd.R_alloc | apply Kd.R_drewN | apply Kd.R_drew)); exact HO_5.out⟩, ⟨by repeat (first | (with_reducible first | exact HB.out | apply below_alloc | apply pw_below_drewN | apply below_drew1) | exact HB.out)⟩⟩
       rw [if_pos c22] at H
       have c22b0 : decide (x48_3 < (wrap64 (a0 * a0))) = true := decide_eq_true c22
       clear c22
       have H' := Aside0.mk H
       clear H
       go_wp2
       go_loopg [52] k3 (fun kq v52 w' => ∃ (x5_4 : List (S23)) (x52_4 : Int), v52 = .int .i64 x52_4 ∧ Aside0 (grapevinelaw06_EpochParts.l2 kq a0 a1 x5_4 (wrap64 (a0 * a0)) x48_3 (x5_3.length : Int) x52_4 = some r) ∧ Aside0 (kq ≤ k3) ∧ Aside0 (Kd.R k23 23 w' w.heap.size (fun _ => True) (.slice Ao15 x5_3.length co15) x5_4) ∧ Aside0 (Below w.heap.size w w'))
       case atStart => exact ⟨(x5_3), (0), (by first | rfl | (simp; done) | (simp [*]; done)), H', ⟨Nat.le_refl _⟩, ⟨by (try simp only [hl5_2]); (try simp only [hl5_3]); (with_reducible repeat (first | apply Kd.R_alloc | apply Kd.R_drewN | apply Kd.R_drew)); exact HO_5.out⟩, ⟨by repeat (first | (with_reducible first | exact HB.out | apply below_alloc | apply pw_below_drewN | apply below_drew1) | exact HB.out)⟩⟩
       case round =>
        clear H'
        try clear c1
        try clear p1
        try clear q1
        try clear hx1
        try clear c2
        try clear p2
        try clear hx2
        try clear hf2
        try clear c4
        try clear p6
        try clear c7
        try clear c7b0
        try clear c8
        try clear c8b0
        try clear c9
        try clear c9b0
        try clear c10
        try clear c11
        try clear c11b0
        try clear c11b1
        try clear c12
        try clear c12b0
        try clear c12b1
        try clear c16
        try clear c16b0
        try clear c17
        try clear c17b0
        try clear c18
        try clear c18b0
        try clear c19
        try clear p19
        try clear q19
        try clear hx19
        try clear hf19
        try clear c20
        try clear hx20
        try clear hf20
        try clear c22
        try clear c22b0
        try clear hx19_0
        try clear hx19_1
        try clear hx19_2
        try clear hx20_0
        try clear hx20_1
        try clear hx20_2
        try clear p1
        try clear p19
        try clear p2
        try clear p6
        try clear q1
        try clear q19
        obtain ⟨x5_4, x52_4, rfl, HA, HK4, HO_5, HB⟩ := hrel
        have hl5_4 := (Kd.R_reads' HO_5.out).1
        rw [hl5_4] at HO_5
        (try simp only [hl5_4])
        cases gk with
        | zero => exact absurd HA.out (by simp [grapevinelaw06_EpochParts.l2])
        | succ k4 =>
         have H := HA.out
         clear HA
         simp only [grapevinelaw06_EpochParts.l2] at H
         by_cases c23 : x52_4 < (x5_3.length : Int)
         rotate_left
         ·rw [if_neg c23] at H
          have c23b0 : decide (x52_4 < (x5_3.length : Int)) = false := decide_eq_false c23
          have c23b9 := c23b0
          (try simp only [hl5_2] at c23b9)
          (try simp only [hl5_3] at c23b9)
          (try simp only [hl5_4] at c23b9)
          (try simp only [hl5_5] at c23b9)
          clear c23
          have H' := Aside0.mk H
          clear H
          go_wp2
          (try simp only [← hl5_3, ← hl5_4])
          go_roundg k4
          case measure => have := HJ4.out; have := HK2.out; have := HK3.out; have := HK4.out; omega
          case rel => exact ⟨(x5_4), (wrap64 (x48_3 + 1)), (by first | rfl | (simp; done) | (simp [*]; done)), H', ⟨by have := HJ4.out; have := HK2.out; have := HK3.out; have := HK4.out; omega⟩, ⟨by (try simp only [hl5_2]); (try simp only [hl5_3]); (try simp only [hl5_4]); (with_reducible repeat (first | apply Kd.R_alloc | apply Kd.R_drewN | apply Kd.R_drew)); exact HO_5.out⟩, ⟨by repeat (first | (with_reducible first | exact HB.out | apply below_alloc | apply pw_below_drewN | apply below_drew1) | exact HB.out)⟩⟩
         rw [if_pos c23] at H
         have c23b0 : decide (x52_4 < (x5_3.length : Int)) = true := decide_eq_true c23
         have c23b9 := c23b0
         (try simp only [hl5_2] at c23b9)
         (try simp only [hl5_3] at c23b9)
         (try simp only [hl5_4] at c23b9)
         (try simp only [hl5_5] at c23b9)
         clear c23
         have H' := Aside0.mk H
         clear H
         go_wp2
         go_loopg [57] k4 (fun kq v57 w' => ∃ (x5_5 : List (S23)) (x57_5 : Int), v57 = .int .i64 x57_5 ∧ Aside0 (grapevinelaw06_EpochParts.l3 kq a0 a1 x5_5 x52_4 (wrap64 (a0 * a0)) x48_3 (x5_3.length : Int) x52_4 (x5_4.length : Int) x57_5 = some r) ∧ Aside0 (kq ≤ k4) ∧ Aside0 (Kd.R k23 23 w' w.heap.size (fun _ => True) (.slice Ao15 x5_4.length co15) x5_5) ∧ Aside0 (Below w.heap.size w w'))
         case atStart => exact ⟨(x5_4), (0), (by first | rfl | (simp; done) | (simp [*]; done)), H', ⟨Nat.le_refl _⟩, ⟨by (try simp only [hl5_2]); (try simp only [hl5_3]); (try simp only [hl5_4]); (with_reducible repeat (first | apply Kd.R_alloc | apply Kd.R_drewN | apply Kd.R_drew)); exact HO_5.out⟩, ⟨by repeat (first | (with_reducible first | exact HB.out | apply below_alloc | apply pw_below_drewN | apply below_drew1) | exact HB.out)⟩⟩
         case round =>
          clear H'
          try clear c1
          try clear p1
          try clear q1
          try clear hx1
          try clear c2
          try clear p2
          try clear hx2
          try clear hf2
          try clear c4
          try clear p6
          try clear c7
          try clear c7b0
          try clear c8
          try clear c8b0
          try clear c9
          try clear c9b0
          try clear c10
          try clear c11
          try clear c11b0
          try clear c11b1
          try clear c12
          try clear c12b0
          try clear c12b1
          try clear c16
          try clear c16b0
          try clear c17
          try clear c17b0
          try clear c18
          try clear c18b0
          try clear c19
          try clear p19
          try clear q19
          try clear hx19
          try clear hf19
          try clear c20
          try clear hx20
          try clear hf20
          try clear c22
          try clear c22b0
          try clear c23
          try clear c23b0
          try clear hx19_0
          try clear hx19_1
          try clear hx19_2
          try clear hx20_0
          try clear hx20_1
          try clear hx20_2
          try clear p1
          try clear p19
          try clear p2
          try clear p6
          try clear q1
          try clear q19
          obtain ⟨x5_5, x57_5, rfl, HA, HK5, HO_5, HB⟩ := hrel
          have hl5_5 := (Kd.R_reads' HO_5.out).1
          rw [hl5_5] at HO_5
          (try simp only [hl5_5])
          cases gk with
          | zero => exact absurd HA.out (by simp [grapevinelaw06_EpochParts.l3])
          | succ k5 =>
           have H := HA.out
           clear HA
           simp only [grapevinelaw06_EpochParts.l3] at H
           by_cases c24 : x57_5 < (x5_4.length : Int)
           rotate_left
           ·rw [if_neg c24] at H
            have c24b0 : decide (x57_5 < (x5_4.length : Int)) = false := decide_eq_false c24
            have c24b9 := c24b0
            (try simp only [hl5_2] at c24b9)
            (try simp only [hl5_3] at c24b9)
            (try simp only [hl5_4] at c24b9)
            (try simp only [hl5_5] at c24b9)
            clear c24
            have H' := Aside0.mk H
            clear H
            go_wp2
            (try simp only [← hl5_4, ← hl5_5])
            go_roundg k5
            case measure => have := HJ4.out; have := HK2.out; have := HK3.out; have := HK4.out; have := HK5.out; omega
            case rel => exact ⟨(x5_5), (wrap64 (x52_4 + 1)), (by first | rfl | (simp; done) | (simp [*]; done)), H', ⟨by have := HJ4.out; have := HK2.out; have := HK3.out; have := HK4.out; have := HK5.out; omega⟩, ⟨by (try simp only [hl5_2]); (try simp only [hl5_3]); (try simp only [hl5_4]); (try simp only [hl5_5]); (with_reducible repeat (first | apply Kd.R_alloc | apply Kd.R_drewN | apply Kd.R_drew)); exact HO_5.out⟩, ⟨by repeat (first | (with_reducible first | exact HB.out | apply below_alloc | apply pw_below_drewN | apply below_drew1) | exact HB.out)⟩⟩
           rw [if_pos c24] at H
           have c24b0 : decide (x57_5 < (x5_4.length : Int)) = true := decide_eq_true c24
           have c24b9 := c24b0
           (try simp only [hl5_2] at c24b9)
           (try simp only [hl5_3] at c24b9)
           (try simp only [hl5_4] at c24b9)
           (try simp only [hl5_5] at c24b9)
           clear c24
           by_cases c25 : 0 ≤ x52_4
           rotate_left
           ·rw [if_neg c25] at H
            exact absurd H (by simp)
           rw [if_pos c25] at H
           have c25b0 : decide (0 ≤ x52_4) = true := decide_eq_true c25
           clear c25
           by_cases c26 : x52_4 < (x5_5.length : Int)
           rotate_left
           ·rw [if_neg c26] at H
            exact absurd H (by simp)
           rw [if_pos c26] at H
           have c26b0 : decide (x52_4 < (x5_5.length : Int)) = true := decide_eq_true c26
           have c26b9 := c26b0
           (try simp only [hl5_2] at c26b9)
           (try simp only [hl5_3] at c26b9)
           (try simp only [hl5_4] at c26b9)
           (try simp only [hl5_5] at c26b9)
           clear c26
           by_cases c27 : 0 ≤ x57_5
           rotate_left
           ·rw [if_neg c27] at H
            exact absurd H (by simp)
           rw [if_pos c27] at H
           have c27b0 : decide (0 ≤ x57_5) = true := decide_eq_true c27
           clear c27
           by_cases c28 : x57_5 < (x5_5.length : Int)
           rotate_left
           ·rw [if_neg c28] at H
            exact absurd H (by simp)
           rw [if_pos c28] at H
           have c28b0 : decide (x57_5 < (x5_5.length : Int)) = true := decide_eq_true c28
           have c28b9 := c28b0
           (try simp only [hl5_2] at c28b9)
           (try simp only [hl5_3] at c28b9)
           (try simp only [hl5_4] at c28b9)
           (try simp only [hl5_5] at c28b9)
           clear c28
           replace H := Option.bind_eq_some_iff.mp H
           obtain ⟨⟨t150, t151, t152, t153⟩, A290, H⟩ := H
           replace H : (if t153 = 0 then ((some (x5_5.set (x52_4 : Int).toNat (⟨t150, t151, t152⟩ : S23) : List (S23))).bind fun y155 => ((epoch_Yields.f (wrap64 (x52_4 + 1)) (wrap64 (x57_5 + 1)) ((rd_T23 y155 x52_4).f2) ((rd_T23 y155 x57_5).f2)).bind fun t158 => (if t158 = true then ((epoch_Epochs_Bump.f ((rd_T23 y155 x52_4).f0) ((rd_T23 y155 x52_4).f1) ((rd_T23 y155 x52_4).f2)).bind fun bt160 => (if bt160.2.2.2 = 0 then (grapevinelaw06_EpochParts.l3 k5 a0 a1 (y155.set (x52_4 : Int).toNat (⟨bt160.1, bt160.2.1, bt160.2.2.1⟩ : S23)) x52_4 (wrap64 (a0 * a0)) x48_3 (x5_3.length : Int) x52_4 (x5_4.length : Int) (wrap64 (x57_5 + 1))) else (some false))) else (grapevinelaw06_EpochParts.l3 k5 a0 a1 y155 x52_4 (wrap64 (a0 * a0)) x48_3 (x5_3.length : Int) x52_4 (x5_4.length : Int) (wrap64 (x57_5 + 1)))))) else (some false)) = some r := H
           have A29 := Aside0.mk A290
           clear A290
           by_cases c30 : t153 = 0
           rotate_left
           ·rw [if_neg c30] at H
            have c30b0 : (t153 == 0) = false := beq_eq_false_iff_ne.mpr c30
            have c30b1 : (t153 != 0) = true := bne_iff_ne.mpr c30
            obtain rfl := Option.some.inj H
            try go_wp2
            have n0_ := Aside0.mk (Kd.R_drew HO_5.out)
            have n1_ := Aside0.mk (below_drew1 HB.out)
            clear HO_5
            clear HB
            have HO_5 := n0_
            have HB := n1_
            clear n0_ n1_
            have p148 : 0 ≤ (x52_4 : Int) := of_decide_eq_true (by first | (with_reducible assumption) | assumption)
            have q148 : x52_4 < (x5_5.length : Int) := of_decide_eq_true (by first | (with_reducible assumption) | assumption)
            obtain ⟨ad148, e148, hx148_0, hx148_1, hx148_2⟩ := at_T23 (Kd.R_reads' HO_5.out).2.2 x52_4 p148 q148
            cases e148
            replace p148 := eq_true p148
            replace q148 := eq_true q148
            have p149 : 0 ≤ (x57_5 : Int) := of_decide_eq_true (by first | (with_reducible assumption) | assumption)
            have q149 : x57_5 < (x5_5.length : Int) := of_decide_eq_true (by first | (with_reducible assumption) | assumption)
            obtain ⟨ad149, e149, hx149_0, hx149_1, hx149_2⟩ := at_T23 (Kd.R_reads' HO_5.out).2.2 x57_5 p149 q149
            obtain rfl : ad148 = ad149 := (by injection e149)
            replace p149 := eq_true p149
            replace q149 := eq_true q149
            refine start_ (n := 16) (S := fun w' => w'.cell? (ad148.add ((x52_4).toNat * 3)) = some (.int .i64 ((rd_T23 x5_5 x52_4).f0)) ∧ w'.cell? ⟨(ad148.add ((x52_4).toNat * 3)).block, (ad148.add ((x52_4).toNat * 3)).off + 1, none⟩ = some (.int .i64 ((rd_T23 x5_5 x52_4).f1)) ∧ w'.cell? ⟨(ad148.add ((x52_4).toNat * 3)).block, (ad148.add ((x52_4).toNat * 3)).off + 2, none⟩ = some (.int .i64 ((rd_T23 x5_5 x52_4).f2)) ∧ w'.cell? (ad148.add ((x57_5).toNat * 3)) = some (.int .i64 ((rd_T23 x5_5 x57_5).f0)) ∧ w'.cell? ⟨(ad148.add ((x57_5).toNat * 3)).block, (ad148.add ((x57_5).toNat * 3)).off + 1, none⟩ = some (.int .i64 ((rd_T23 x5_5 x57_5).f1)) ∧ w'.cell? ⟨(ad148.add ((x57_5).toNat * 3)).block, (ad148.add ((x57_5).toNat * 3)).off + 2, none⟩ = some (.int .i64 ((rd_T23 x5_5 x57_5).f2))) (ds := []) #[false, false, false, false, false, false, false, false, false, false, false, false, false, false, false, false] (by kernel_rfl) rfl rfl ⟨hx148_0, hx148_1, hx148_2, hx149_0, hx149_1, hx149_2⟩ (fun hHeld => ?_); refine with_tabW grapevinelaw06_EpochParts.tab19 grapevinelaw06_EpochParts.bits19 (fun HT_ HW_ => ?_)
            generalize wr.drew = w85 at HO_5 HB hx148_0 hx148_1 hx148_2 hx149_0 hx149_1 hx149_2 hHeld ⊢
            refine pure_ (i := 0) (N := some 61) (v := ?_) (a' := ?_) #[true, false, false, false, false, false, false, false, false, false, false, false, false, false, false, false] rfl rfl (any_of HT_.out (by kernel_rfl)) (fun _ _ _ h => h) (Or.inl ⟨by rfl, ?_⟩) ?_ ?_
            rotate_left
            ·intro w'
             go_simp
             with_reducible rfl
            rotate_left
            ·simp only [Act.put, List.setIfInBounds_toArray, List.set_cons_zero, List.set_cons_succ, i64_w, i32_w]
             rfl
            refine pure_ (i := 1) (N := some 62) (v := ?_) (a' := ?_) #[true, true, false, false, false, false, false, false, false, false, false, false, false, false, false, false] rfl rfl (any_of HT_.out (by kernel_rfl)) (fun _ _ _ h => h) (Or.inl ⟨by rfl, ?_⟩) ?_ ?_
            rotate_left
            ·intro w'
             go_simp
             with_reducible rfl
            rotate_left
            ·simp only [Act.put, List.setIfInBounds_toArray, List.set_cons_zero, List.set_cons_succ, i64_w, i32_w]
             rfl
            refine pure_ (i := 2) (N := some 63) (v := ?_) (a' := ?_) #[true, true, true, false, false, false, false, false, false, false, false, false, false, false, false, false] rfl rfl (any_of HT_.out (by kernel_rfl)) (fun _ _ _ h => h) (Or.inl ⟨by rfl, ?_⟩) ?_ ?_
            rotate_left
            ·intro w'
             go_simp
             with_reducible rfl
            rotate_left
            ·simp only [Act.put, List.setIfInBounds_toArray, List.set_cons_zero, List.set_cons_succ, i64_w, i32_w]
             rfl
            refine pure_ (i := 4) (N := some 65) (v := ?_) (a' := ?_) #[true, true, true, false, true, false, false, false, false, false, false, false, false, false, false, false] rfl rfl (any_of HT_.out (by kernel_rfl)) (fun _ _ _ h => h) (Or.inl ⟨by rfl, ?_⟩) ?_ ?_
            rotate_left
            ·intro w'
             go_simp
             with_reducible rfl
            rotate_left
            ·simp only [Act.put, List.setIfInBounds_toArray, List.set_cons_zero, List.set_cons_succ, i64_w, i32_w]
             rfl
            refine pure_ (i := 5) (N := some 66) (v := ?_) (a' := ?_) #[true, true, true, false, true, true, false, false, false, false, false, false, false, false, false, false] rfl rfl (any_of HT_.out (by kernel_rfl)) (fun _ _ _ h => h) (Or.inl ⟨by rfl, ?_⟩) ?_ ?_
            rotate_left
            ·intro w'
             go_simp
             with_reducible rfl
            rotate_left
            ·simp only [Act.put, List.setIfInBounds_toArray, List.set_cons_zero, List.set_cons_succ, i64_w, i32_w]
             rfl
            refine pure_ (i := 6) (N := some 67) (v := ?_) (a' := ?_) #[true, true, true, false, true, true, true, false, false, false, false, false, false, false, false, false] rfl rfl (any_of HT_.out (by kernel_rfl)) (fun _ _ _ h => h) (Or.inl ⟨by rfl, ?_⟩) ?_ ?_
            rotate_left
            ·intro w'
             go_simp
             with_reducible rfl
            rotate_left
            ·simp only [Act.put, List.setIfInBounds_toArray, List.set_cons_zero, List.set_cons_succ, i64_w, i32_w]
             rfl
            refine pure_ (i := 7) (N := some 68) (v := ?_) (a' := ?_) #[true, true, true, false, true, true, true, true, false, false, false, false, false, false, false, false] rfl rfl (any_of HT_.out (by kernel_rfl)) (fun _ _ _ h => h) (Or.inl ⟨by rfl, ?_⟩) ?_ ?_
            rotate_left
            ·intro w'
             go_simp
             with_reducible rfl
            rotate_left
            ·simp only [Act.put, List.setIfInBounds_toArray, List.set_cons_zero, List.set_cons_succ, i64_w, i32_w]
             rfl
            refine take_ (i := 3) (N := some 64) (v := ?_) (a' := ?_) #[true, true, true, true, true, true, true, true, false, false, false, false, false, false, false, false] rfl rfl (take_ofW HT_.out HW_.out (by kernel_rfl)) (fun _ _ _ h => h) (Or.inl ⟨by rfl, ?_⟩) hHeld ?_ ?_
            rotate_left
            ·rintro w' ⟨s0, s1, s2, s3, s4, s5⟩
             go_simp
             with_reducible rfl
            rotate_left
            ·simp only [Act.put, List.setIfInBounds_toArray, List.set_cons_zero, List.set_cons_succ, i64_w, i32_w]
             rfl
            refine take_ (i := 8) (N := some 69) (v := ?_) (a' := ?_) #[true, true, true, true, true, true, true, true, true, false, false, false, false, false, false, false] rfl rfl (take_ofW HT_.out HW_.out (by kernel_rfl)) (fun _ _ _ h => h) (Or.inl ⟨by rfl, ?_⟩) hHeld ?_ ?_
            rotate_left
            ·rintro w' ⟨s0, s1, s2, s3, s4, s5⟩
             go_simp
             with_reducible rfl
            rotate_left
            ·simp only [Act.put, List.setIfInBounds_toArray, List.set_cons_zero, List.set_cons_succ, i64_w, i32_w]
             rfl
            refine join_ (σ := Nat) 2 #[true, true, true, true, true, true, true, true, true, true, true, true, true, true, false, false] (fun s_ => [(70, .tuple #[.agg #[.int .i64 t150, .int .i64 t151, .int .i64 t152], .int .i64 t153]), (9, .pointer (some ⟨s_, 0, none⟩)), (60, .tuple #[.agg #[.int .i64 t150, .int .i64 t151, .int .i64 t152], .int .i64 t153]), (71, .agg #[.int .i64 t150, .int .i64 t151, .int .i64 t152]), (72, .int .i64 t153)]) (fun s_ w' => (w'.cell? (ad148.add ((x52_4).toNat * 3)) = some (.int .i64 ((rd_T23 x5_5 x52_4).f0)) ∧ w'.cell? ⟨(ad148.add ((x52_4).toNat * 3)).block, (ad148.add ((x52_4).toNat * 3)).off + 1, none⟩ = some (.int .i64 ((rd_T23 x5_5 x52_4).f1)) ∧ w'.cell? ⟨(ad148.add ((x52_4).toNat * 3)).block, (ad148.add ((x52_4).toNat * 3)).off + 2, none⟩ = some (.int .i64 ((rd_T23 x5_5 x52_4).f2)) ∧ w'.cell? (ad148.add ((x57_5).toNat * 3)) = some (.int .i64 ((rd_T23 x5_5 x57_5).f0)) ∧ w'.cell? ⟨(ad148.add ((x57_5).toNat * 3)).block, (ad148.add ((x57_5).toNat * 3)).off + 1, none⟩ = some (.int .i64 ((rd_T23 x5_5 x57_5).f1)) ∧ w'.cell? ⟨(ad148.add ((x57_5).toNat * 3)).block, (ad148.add ((x57_5).toNat * 3)).off + 2, none⟩ = some (.int .i64 ((rd_T23 x5_5 x57_5).f2))) ∧ (Kd.R k23 23 w' w.heap.size (fun k_ => k_ ≠ s_) (.slice (some ad148) x5_5.length co15) x5_5) ∧ (w'.heap[s_]? = some (.cells #[.int .i64 0, .int .i64 0, .int .i64 0] 23 (0, 0))) ∧ (w.heap.size ≤ s_) ∧ (w.heap.size ≤ s_) ∧ (Below w.heap.size w w')) ?_ ?_
            rotate_left
            ·intro hCont
             refine two_ (i := 9) (j := 13) (Ni := some 70) (Nj := some 9) #[true, true, true, true, true, true, true, true, true, true, false, false, false, false, false, false] #[true, true, true, true, true, true, true, true, true, false, false, false, false, true, false, false] rfl rfl rfl rfl (two_of HT_.out (by kernel_rfl)) (by decide) (by decide) (fun K hK => ?_) (fun K hK => ?_)
             ·skip
              refine goes_ Try.func18 (by kernel_rfl) rfl #[.agg #[.int .i64 ((rd_T23 x5_5 x52_4).f0), .int .i64 ((rd_T23 x5_5 x52_4).f1), .int .i64 ((rd_T23 x5_5 x52_4).f2)], .int .i64 ((rd_T23 x5_5 x57_5).f0)] (by rfl) rfl rfl (by (try simp only [List.map_toArray, List.map_cons, List.map_nil]); first | done | rfl | (simp only [List.length_drop, List.length_take]; rfl)) ?_
              with_reducible refine (epoch_Epochs_See.calls ((rd_T23 x5_5 x52_4).f0) ((rd_T23 x5_5 x52_4).f1) ((rd_T23 x5_5 x52_4).f2) ((rd_T23 x5_5 x57_5).f0) t150 t151 t152 t153 _ A29.out).mono ?_
              rintro e w86 ⟨rfl, hb⟩
              have HS0_ := (hb.cell (World.block_lt_of_cell? _ _ (hHeld.1))).trans (hHeld.1)
              have HS1_ := (hb.cell (World.block_lt_of_cell? _ _ (hHeld.2.1))).trans (hHeld.2.1)
              have HS2_ := (hb.cell (World.block_lt_of_cell? _ _ (hHeld.2.2.1))).trans (hHeld.2.2.1)
              have HS3_ := (hb.cell (World.block_lt_of_cell? _ _ (hHeld.2.2.2.1))).trans (hHeld.2.2.2.1)
              have HS4_ := (hb.cell (World.block_lt_of_cell? _ _ (hHeld.2.2.2.2.1))).trans (hHeld.2.2.2.2.1)
              have HS5_ := (hb.cell (World.block_lt_of_cell? _ _ (hHeld.2.2.2.2.2))).trans (hHeld.2.2.2.2.2)
              refine ⟨_, rfl, ?_⟩
              have n0_ := Aside0.mk (Kd.R_below (by (with_reducible repeat (first | apply Kd.R_alloc | apply Kd.R_drewN | apply Kd.R_drew)); exact HO_5.out) hb)
              have n1_ := Aside0.mk (below_step (by repeat (first | (with_reducible first | exact HB.out | apply below_alloc | apply pw_below_drewN | apply below_drew1) | exact HB.out)) hb)
              clear HO_5
              clear HB
              have HO_5 := n0_
              have HB := n1_
              clear n0_ n1_
              (try clear hb)
              (try clear hb2)
              (try clear hk)
              (try clear hi)
              refine hK.out _ _ ⟨HS0_, HS1_, HS2_, HS3_, HS4_, HS5_⟩ (fun hHeld => ?_)
              clear hK K
              refine norm_ (a' := ?_) ?_ ?_
              rotate_left
              ·show Act.put _ (some 70) _ = _
               simp only [Act.put, List.setIfInBounds_toArray, List.set_cons_zero, List.set_cons_succ, i64_w, i32_w]
               rfl
              refine pure_ (i := 10) (N := some 60) (v := ?_) (a' := ?_) #[true, true, true, true, true, true, true, true, true, true, true, false, false, false, false, false] rfl rfl (any_of HT_.out (by kernel_rfl)) (fun _ _ _ h => h) (Or.inl ⟨by rfl, ?_⟩) ?_ ?_
              rotate_left
              ·intro w'
               go_simp
               with_reducible rfl
              rotate_left
              ·simp only [Act.put, List.setIfInBounds_toArray, List.set_cons_zero, List.set_cons_succ, i64_w, i32_w]
               rfl
              refine pure_ (i := 11) (N := some 71) (v := ?_) (a' := ?_) #[true, true, true, true, true, true, true, true, true, true, true, true, false, false, false, false] rfl rfl (any_of HT_.out (by kernel_rfl)) (fun _ _ _ h => h) (Or.inl ⟨by rfl, ?_⟩) ?_ ?_
              rotate_left
              ·intro w'
               go_simp
               with_reducible rfl
              rotate_left
              ·simp only [Act.put, List.setIfInBounds_toArray, List.set_cons_zero, List.set_cons_succ, i64_w, i32_w]
               rfl
              refine pure_ (i := 12) (N := some 72) (v := ?_) (a' := ?_) #[true, true, true, true, true, true, true, true, true, true, true, true, true, false, false, false] rfl rfl (any_of HT_.out (by kernel_rfl)) (fun _ _ _ h => h) (Or.inl ⟨by rfl, ?_⟩) ?_ ?_
              rotate_left
              ·intro w'
               go_simp
               with_reducible rfl
              rotate_left
              ·simp only [Act.put, List.setIfInBounds_toArray, List.set_cons_zero, List.set_cons_succ, i64_w, i32_w]
               rfl
              refine one_ (i := 13) (N := some 9) #[true, true, true, true, true, true, true, true, true, true, true, true, true, true, false, false] rfl rfl (one_of HT_.out (by kernel_rfl)) (by decide) (fun K hK => ?_)
              refine box_step ?hg (N := 9) ?hd (cs := #[.int .i64 0, .int .i64 0, .int .i64 0]) (t := 23) ?hr ?_; (case hd => rfl); (case hg => rfl); (case hr => first | (go_simp; done) | (go_simp; rfl))
              intro gb154 hg w87 hbox hb
              have HS0_ := (hb.cell (World.block_lt_of_cell? _ _ (hHeld.1))).trans (hHeld.1)
              have HS1_ := (hb.cell (World.block_lt_of_cell? _ _ (hHeld.2.1))).trans (hHeld.2.1)
              have HS2_ := (hb.cell (World.block_lt_of_cell? _ _ (hHeld.2.2.1))).trans (hHeld.2.2.1)
              have HS3_ := (hb.cell (World.block_lt_of_cell? _ _ (hHeld.2.2.2.1))).trans (hHeld.2.2.2.1)
              have HS4_ := (hb.cell (World.block_lt_of_cell? _ _ (hHeld.2.2.2.2.1))).trans (hHeld.2.2.2.2.1)
              have HS5_ := (hb.cell (World.block_lt_of_cell? _ _ (hHeld.2.2.2.2.2))).trans (hHeld.2.2.2.2.2)
              have n0_ := Aside0.mk (Kd.R_below (Kd.R_elderB (by (with_reducible repeat (first | apply Kd.R_alloc | apply Kd.R_drewN | apply Kd.R_drew)); exact HO_5.out) gb154 (Nat.le_of_eq hg.symm)) hb)
              have n1_ := Aside0.mk (below_step (by repeat (first | (with_reducible first | exact HB.out | apply below_alloc | apply pw_below_drewN | apply below_drew1) | exact HB.out)) hb)
              have n2_ := Aside0.mk (hbox)
              have n3_ := Aside0.mk ((by rw [hg]; exact (below_size (by repeat (first | (with_reducible first | exact HB.out | apply below_alloc | apply pw_below_drewN | apply below_drew1) | exact HB.out))) : w.heap.size ≤ gb154))
              have n4_ := Aside0.mk ((by rw [hg]; exact (below_size (by repeat (first | (with_reducible first | exact HB.out | apply below_alloc | apply pw_below_drewN | apply below_drew1) | exact HB.out))) : w.heap.size ≤ gb154))
              clear HO_5
              clear HB
              have HO_5 := n0_
              have HB := n1_
              have BK154 := n2_
              have GW154 := n3_
              have GE154 := n4_
              clear n0_ n1_ n2_ n3_ n4_
              clear hb hbox hg
              refine hK.out _ _ ⟨HS0_, HS1_, HS2_, HS3_, HS4_, HS5_⟩ (fun hHeld => ?_)
              clear hK K
              refine norm_ (a' := ?_) ?_ ?_
              rotate_left
              ·show Act.put _ (some 9) _ = _
               simp only [Act.put, List.setIfInBounds_toArray, List.set_cons_zero, List.set_cons_succ, i64_w, i32_w]
               rfl
              exact norm_ (by simp only [putAll, Act.put, List.setIfInBounds_toArray, List.set_cons_zero, List.set_cons_succ]) (hCont (gb154) _ ⟨hHeld, (by (with_reducible repeat (first | apply Kd.R_alloc | apply Kd.R_drewN | apply Kd.R_drew)); exact Kd.R_mono HO_5.out (fun _ hk => hk.2)), (by (with_reducible repeat (first | refine blk_drewN ?_ _ | refine blk_drew ?_ | refine blk_alloc ?_ _)); exact BK154.out), GW154.out, GE154.out, (by repeat (first | (with_reducible first | exact HB.out | apply below_alloc | apply pw_below_drewN | apply below_drew1 | refine below_set ?_ GE154.out) | exact HB.out))⟩)
             ·skip
              refine box_step ?hg (N := 9) ?hd (cs := #[.int .i64 0, .int .i64 0, .int .i64 0]) (t := 23) ?hr ?_; (case hd => rfl); (case hg => rfl); (case hr => first | (go_simp; done) | (go_simp; rfl))
              intro gb154 hg w86 hbox hb
              have HS0_ := (hb.cell (World.block_lt_of_cell? _ _ (hHeld.1))).trans (hHeld.1)
              have HS1_ := (hb.cell (World.block_lt_of_cell? _ _ (hHeld.2.1))).trans (hHeld.2.1)
              have HS2_ := (hb.cell (World.block_lt_of_cell? _ _ (hHeld.2.2.1))).trans (hHeld.2.2.1)
              have HS3_ := (hb.cell (World.block_lt_of_cell? _ _ (hHeld.2.2.2.1))).trans (hHeld.2.2.2.1)
              have HS4_ := (hb.cell (World.block_lt_of_cell? _ _ (hHeld.2.2.2.2.1))).trans (hHeld.2.2.2.2.1)
              have HS5_ := (hb.cell (World.block_lt_of_cell? _ _ (hHeld.2.2.2.2.2))).trans (hHeld.2.2.2.2.2)
              have n0_ := Aside0.mk (Kd.R_below (Kd.R_elderB (by (with_reducible repeat (first | apply Kd.R_alloc | apply Kd.R_drewN | apply Kd.R_drew)); exact HO_5.out) gb154 (Nat.le_of_eq hg.symm)) hb)
              have n1_ := Aside0.mk (below_step (by repeat (first | (with_reducible first | exact HB.out | apply below_alloc | apply pw_below_drewN | apply below_drew1) | exact HB.out)) hb)
              have n2_ := Aside0.mk (hbox)
              have n3_ := Aside0.mk ((by rw [hg]; exact (below_size (by repeat (first | (with_reducible first | exact HB.out | apply below_alloc | apply pw_below_drewN | apply below_drew1) | exact HB.out))) : w.heap.size ≤ gb154))
              have n4_ := Aside0.mk ((by rw [hg]; exact (below_size (by repeat (first | (with_reducible first | exact HB.out | apply below_alloc | apply pw_below_drewN | apply below_drew1) | exact HB.out))) : w.heap.size ≤ gb154))
              clear HO_5
              clear HB
              have HO_5 := n0_
              have HB := n1_
              have BK154 := n2_
              have GW154 := n3_
              have GE154 := n4_
              clear n0_ n1_ n2_ n3_ n4_
              clear hb hbox hg
              refine hK.out _ _ ⟨HS0_, HS1_, HS2_, HS3_, HS4_, HS5_⟩ (fun hHeld => ?_)
              clear hK K
              refine norm_ (a' := ?_) ?_ ?_
              rotate_left
              ·show Act.put _ (some 9) _ = _
               simp only [Act.put, List.setIfInBounds_toArray, List.set_cons_zero, List.set_cons_succ, i64_w, i32_w]
               rfl
              refine one_ (i := 9) (N := some 70) #[true, true, true, true, true, true, true, true, true, true, false, false, false, true, false, false] rfl rfl (one_of HT_.out (by kernel_rfl)) (by decide) (fun K hK => ?_)
              refine goes_ Try.func18 (by kernel_rfl) rfl #[.agg #[.int .i64 ((rd_T23 x5_5 x52_4).f0), .int .i64 ((rd_T23 x5_5 x52_4).f1), .int .i64 ((rd_T23 x5_5 x52_4).f2)], .int .i64 ((rd_T23 x5_5 x57_5).f0)] (by rfl) rfl rfl (by (try simp only [List.map_toArray, List.map_cons, List.map_nil]); first | done | rfl | (simp only [List.length_drop, List.length_take]; rfl)) ?_
              with_reducible refine (epoch_Epochs_See.calls ((rd_T23 x5_5 x52_4).f0) ((rd_T23 x5_5 x52_4).f1) ((rd_T23 x5_5 x52_4).f2) ((rd_T23 x5_5 x57_5).f0) t150 t151 t152 t153 _ A29.out).mono ?_
              rintro e w87 ⟨rfl, hb⟩
              have HS0_ := (hb.cell (World.block_lt_of_cell? _ _ (hHeld.1))).trans (hHeld.1)
              have HS1_ := (hb.cell (World.block_lt_of_cell? _ _ (hHeld.2.1))).trans (hHeld.2.1)
              have HS2_ := (hb.cell (World.block_lt_of_cell? _ _ (hHeld.2.2.1))).trans (hHeld.2.2.1)
              have HS3_ := (hb.cell (World.block_lt_of_cell? _ _ (hHeld.2.2.2.1))).trans (hHeld.2.2.2.1)
              have HS4_ := (hb.cell (World.block_lt_of_cell? _ _ (hHeld.2.2.2.2.1))).trans (hHeld.2.2.2.2.1)
              have HS5_ := (hb.cell (World.block_lt_of_cell? _ _ (hHeld.2.2.2.2.2))).trans (hHeld.2.2.2.2.2)
              refine ⟨_, rfl, ?_⟩
              have n0_ := Aside0.mk (Kd.R_below (by (with_reducible repeat (first | apply Kd.R_alloc | apply Kd.R_drewN | apply Kd.R_drew)); exact HO_5.out) hb)
              have n1_ := Aside0.mk (blk_below (g := gb154) (o := .cells #[.int .i64 0, .int .i64 0, .int .i64 0] 23 (0, 0)) (by (with_reducible repeat (first | refine blk_drewN ?_ _ | refine blk_drew ?_ | refine blk_alloc ?_ _)); exact BK154.out) hb)
              have n2_ := Aside0.mk (below_step (by repeat (first | (with_reducible first | exact HB.out | apply below_alloc | apply pw_below_drewN | apply below_drew1 | refine below_set ?_ GE154.out) | exact HB.out)) hb)
              clear HO_5
              clear BK154
              clear HB
              have HO_5 := n0_
              have BK154 := n1_
              have HB := n2_
              clear n0_ n1_ n2_
              (try clear hb)
              (try clear hb2)
              (try clear hk)
              (try clear hi)
              refine hK.out _ _ ⟨HS0_, HS1_, HS2_, HS3_, HS4_, HS5_⟩ (fun hHeld => ?_)
              clear hK K
              refine norm_ (a' := ?_) ?_ ?_
              rotate_left
              ·show Act.put _ (some 70) _ = _
               simp only [Act.put, List.setIfInBounds_toArray, List.set_cons_zero, List.set_cons_succ, i64_w, i32_w]
               rfl
              refine pure_ (i := 10) (N := some 60) (v := ?_) (a' := ?_) #[true, true, true, true, true, true, true, true, true, true, true, false, false, true, false, false] rfl rfl (any_of HT_.out (by kernel_rfl)) (fun _ _ _ h => h) (Or.inl ⟨by rfl, ?_⟩) ?_ ?_
              rotate_left
              ·intro w'
               go_simp
               with_reducible rfl
              rotate_left
              ·simp only [Act.put, List.setIfInBounds_toArray, List.set_cons_zero, List.set_cons_succ, i64_w, i32_w]
               rfl
              refine pure_ (i := 11) (N := some 71) (v := ?_) (a' := ?_) #[true, true, true, true, true, true, true, true, true, true, true, true, false, true, false, false] rfl rfl (any_of HT_.out (by kernel_rfl)) (fun _ _ _ h => h) (Or.inl ⟨by rfl, ?_⟩) ?_ ?_
              rotate_left
              ·intro w'
               go_simp
               with_reducible rfl
              rotate_left
              ·simp only [Act.put, List.setIfInBounds_toArray, List.set_cons_zero, List.set_cons_succ, i64_w, i32_w]
               rfl
              refine pure_ (i := 12) (N := some 72) (v := ?_) (a' := ?_) #[true, true, true, true, true, true, true, true, true, true, true, true, true, true, false, false] rfl rfl (any_of HT_.out (by kernel_rfl)) (fun _ _ _ h => h) (Or.inl ⟨by rfl, ?_⟩) ?_ ?_
              rotate_left
              ·intro w'
               go_simp
               with_reducible rfl
              rotate_left
              ·simp only [Act.put, List.setIfInBounds_toArray, List.set_cons_zero, List.set_cons_succ, i64_w, i32_w]
               rfl
              exact norm_ (by simp only [putAll, Act.put, List.setIfInBounds_toArray, List.set_cons_zero, List.set_cons_succ]) (hCont (gb154) _ ⟨hHeld, (by (with_reducible repeat (first | apply Kd.R_alloc | apply Kd.R_drewN | apply Kd.R_drew)); exact Kd.R_mono HO_5.out (fun _ hk => hk.2)), (by (with_reducible repeat (first | refine blk_drewN ?_ _ | refine blk_drew ?_ | refine blk_alloc ?_ _)); exact BK154.out), GW154.out, GE154.out, (by repeat (first | (with_reducible first | exact HB.out | apply below_alloc | apply pw_below_drewN | apply below_drew1 | refine below_set ?_ GE154.out) | exact HB.out))⟩)
            rintro gb154 w88 ⟨hS_, h0_, h1_, h2_, h3_, h4_⟩
            have n0_ : Aside0 (Kd.R k23 23 w88 w.heap.size (fun k_ => k_ ≠ gb154) (.slice (some ad148) x5_5.length co15) x5_5) := ⟨h0_⟩
            have n1_ : Aside0 (w88.heap[gb154]? = some (.cells #[.int .i64 0, .int .i64 0, .int .i64 0] 23 (0, 0))) := ⟨h1_⟩
            have n2_ : Aside0 (w.heap.size ≤ gb154) := ⟨h2_⟩
            have n3_ : Aside0 (w.heap.size ≤ gb154) := ⟨h3_⟩
            have n4_ : Aside0 (Below w.heap.size w w88) := ⟨h4_⟩
            clear HO_5
            clear HB
            clear h0_ h1_ h2_ h3_ h4_
            have HO_5 := n0_
            have BK154 := n1_
            have GW154 := n2_
            have GE154 := n3_
            have HB := n4_
            clear n0_ n1_ n2_ n3_ n4_
            have hHeld : w88.cell? (ad148.add ((x52_4).toNat * 3)) = some (.int .i64 ((rd_T23 x5_5 x52_4).f0)) ∧ w88.cell? ⟨(ad148.add ((x52_4).toNat * 3)).block, (ad148.add ((x52_4).toNat * 3)).off + 1, none⟩ = some (.int .i64 ((rd_T23 x5_5 x52_4).f1)) ∧ w88.cell? ⟨(ad148.add ((x52_4).toNat * 3)).block, (ad148.add ((x52_4).toNat * 3)).off + 2, none⟩ = some (.int .i64 ((rd_T23 x5_5 x52_4).f2)) ∧ w88.cell? (ad148.add ((x57_5).toNat * 3)) = some (.int .i64 ((rd_T23 x5_5 x57_5).f0)) ∧ w88.cell? ⟨(ad148.add ((x57_5).toNat * 3)).block, (ad148.add ((x57_5).toNat * 3)).off + 1, none⟩ = some (.int .i64 ((rd_T23 x5_5 x57_5).f1)) ∧ w88.cell? ⟨(ad148.add ((x57_5).toNat * 3)).block, (ad148.add ((x57_5).toNat * 3)).off + 2, none⟩ = some (.int .i64 ((rd_T23 x5_5 x57_5).f2)) := hS_
            refine norm_ (a' := ?_) ?_ ?_
            rotate_left
            ·simp only [putAll, Act.put, List.setIfInBounds_toArray, List.set_cons_zero, List.set_cons_succ]
             rfl
            refine one_ (i := 14) (N := none) #[true, true, true, true, true, true, true, true, true, true, true, true, true, true, true, false] rfl rfl (one_of HT_.out (by kernel_rfl)) (by decide) (fun K hK => ?_)
            have hs89 : w88.cell? ⟨gb154, 0, none⟩ = some (.int .i64 0) := (blk_cell BK154.out 0).trans rfl
            have hfs89 := blk_frozen BK154.out 0
            have hs90 : w88.cell? ⟨gb154, 1, none⟩ = some (.int .i64 0) := (blk_cell BK154.out 1).trans rfl
            have hfs90 := blk_frozen BK154.out 1
            have hs91 : w88.cell? ⟨gb154, 2, none⟩ = some (.int .i64 0) := (blk_cell BK154.out 2).trans rfl
            have hfs91 := blk_frozen BK154.out 2
            refine skip_ (w1 := ?_) (by rfl) rfl ?_ ?_
            rotate_left
            ·go_simp
             rfl
            refine hK.out _ _ ⟨((cell_far (p := ⟨gb154, _, none⟩) (by first | exact Kd.own_blk (Kd.R_away HO_5.out (fun _ hk => hk)) | (simp only [add_block]; exact Kd.own_blk (Kd.R_away HO_5.out (fun _ hk => hk)))) _).trans (((cell_far (p := ⟨gb154, _, none⟩) (by first | exact Kd.own_blk (Kd.R_away HO_5.out (fun _ hk => hk)) | (simp only [add_block]; exact Kd.own_blk (Kd.R_away HO_5.out (fun _ hk => hk)))) _).trans (((cell_far (p := ⟨gb154, _, none⟩) (by first | exact Kd.own_blk (Kd.R_away HO_5.out (fun _ hk => hk)) | (simp only [add_block]; exact Kd.own_blk (Kd.R_away HO_5.out (fun _ hk => hk)))) _).trans (hHeld.1)))))), ((cell_far (p := ⟨gb154, _, none⟩) (by first | exact Kd.own_blk (Kd.R_away HO_5.out (fun _ hk => hk)) | (simp only [add_block]; exact Kd.own_blk (Kd.R_away HO_5.out (fun _ hk => hk)))) _).trans (((cell_far (p := ⟨gb154, _, none⟩) (by first | exact Kd.own_blk (Kd.R_away HO_5.out (fun _ hk => hk)) | (simp only [add_block]; exact Kd.own_blk (Kd.R_away HO_5.out (fun _ hk => hk)))) _).trans (((cell_far (p := ⟨gb154, _, none⟩) (by first | exact Kd.own_blk (Kd.R_away HO_5.out (fun _ hk => hk)) | (simp only [add_block]; exact Kd.own_blk (Kd.R_away HO_5.out (fun _ hk => hk)))) _).trans (hHeld.2.1)))))), ((cell_far (p := ⟨gb154, _, none⟩) (by first | exact Kd.own_blk (Kd.R_away HO_5.out (fun _ hk => hk)) | (simp only [add_block]; exact Kd.own_blk (Kd.R_away HO_5.out (fun _ hk => hk)))) _).trans (((cell_far (p := ⟨gb154, _, none⟩) (by first | exact Kd.own_blk (Kd.R_away HO_5.out (fun _ hk => hk)) | (simp only [add_block]; exact Kd.own_blk (Kd.R_away HO_5.out (fun _ hk => hk)))) _).trans (((cell_far (p := ⟨gb154, _, none⟩) (by first | exact Kd.own_blk (Kd.R_away HO_5.out (fun _ hk => hk)) | (simp only [add_block]; exact Kd.own_blk (Kd.R_away HO_5.out (fun _ hk => hk)))) _).trans (hHeld.2.2.1)))))), ((cell_far (p := ⟨gb154, _, none⟩) (by first | exact Kd.own_blk (Kd.R_away HO_5.out (fun _ hk => hk)) | (simp only [add_block]; exact Kd.own_blk (Kd.R_away HO_5.out (fun _ hk => hk)))) _).trans (((cell_far (p := ⟨gb154, _, none⟩) (by first | exact Kd.own_blk (Kd.R_away HO_5.out (fun _ hk => hk)) | (simp only [add_block]; exact Kd.own_blk (Kd.R_away HO_5.out (fun _ hk => hk)))) _).trans (((cell_far (p := ⟨gb154, _, none⟩) (by first | exact Kd.own_blk (Kd.R_away HO_5.out (fun _ hk => hk)) | (simp only [add_block]; exact Kd.own_blk (Kd.R_away HO_5.out (fun _ hk => hk)))) _).trans (hHeld.2.2.2.1)))))), ((cell_far (p := ⟨gb154, _, none⟩) (by first | exact Kd.own_blk (Kd.R_away HO_5.out (fun _ hk => hk)) | (simp only [add_block]; exact Kd.own_blk (Kd.R_away HO_5.out (fun _ hk => hk)))) _).trans (((cell_far (p := ⟨gb154, _, none⟩) (by first | exact Kd.own_blk (Kd.R_away HO_5.out (fun _ hk => hk)) | (simp only [add_block]; exact Kd.own_blk (Kd.R_away HO_5.out (fun _ hk => hk)))) _).trans (((cell_far (p := ⟨gb154, _, none⟩) (by first | exact Kd.own_blk (Kd.R_away HO_5.out (fun _ hk => hk)) | (simp only [add_block]; exact Kd.own_blk (Kd.R_away HO_5.out (fun _ hk => hk)))) _).trans (hHeld.2.2.2.2.1)))))), ((cell_far (p := ⟨gb154, _, none⟩) (by first | exact Kd.own_blk (Kd.R_away HO_5.out (fun _ hk => hk)) | (simp only [add_block]; exact Kd.own_blk (Kd.R_away HO_5.out (fun _ hk => hk)))) _).trans (((cell_far (p := ⟨gb154, _, none⟩) (by first | exact Kd.own_blk (Kd.R_away HO_5.out (fun _ hk => hk)) | (simp only [add_block]; exact Kd.own_blk (Kd.R_away HO_5.out (fun _ hk => hk)))) _).trans (((cell_far (p := ⟨gb154, _, none⟩) (by first | exact Kd.own_blk (Kd.R_away HO_5.out (fun _ hk => hk)) | (simp only [add_block]; exact Kd.own_blk (Kd.R_away HO_5.out (fun _ hk => hk)))) _).trans (hHeld.2.2.2.2.2))))))⟩ (fun hHeld => ?_)
            clear hK K
            refine pure_ (i := 15) (N := some 10) (v := ?_) (a' := ?_) #[true, true, true, true, true, true, true, true, true, true, true, true, true, true, true, true] rfl rfl (any_of HT_.out (by kernel_rfl)) (fun _ _ _ h => h) (Or.inl ⟨by rfl, ?_⟩) ?_ ?_
            rotate_left
            ·intro w'
             go_simp
             with_reducible rfl
            rotate_left
            ·simp only [Act.put, List.setIfInBounds_toArray, List.set_cons_zero, List.set_cons_succ, i64_w, i32_w]
             rfl
            refine done_ (done_of HT_.out (by kernel_rfl)) ?_
            try go_wp2
            go_ret
            exact ⟨by first | rfl | (simp [errW_none, errW_some] <;> rfl) | (simp [*, errW_none, errW_some] <;> rfl), by repeat (first | (with_reducible first | exact HB.out | apply below_alloc | apply pw_below_drewN | apply below_drew1 | refine below_set ?_ GE154.out) | exact HB.out)⟩
           rw [if_pos c30] at H
           have c30b0 : (t153 == 0) = true := beq_iff_eq.mpr c30
           have c30b1 : (t153 != 0) = false := bne_eq_false_iff_eq.mpr c30
           clear c30
           obtain ⟨y155, hy155⟩ : ∃ y_ : List (S23), y_ = (x5_5.set (x52_4 : Int).toNat (⟨t150, t151, t152⟩ : S23)) := ⟨_, rfl⟩
           replace H : ((epoch_Yields.f (wrap64 (x52_4 + 1)) (wrap64 (x57_5 + 1)) ((rd_T23 y155 x52_4).f2) ((rd_T23 y155 x57_5).f2)).bind fun t158 => (if t158 = true then ((epoch_Epochs_Bump.f ((rd_T23 y155 x52_4).f0) ((rd_T23 y155 x52_4).f1) ((rd_T23 y155 x52_4).f2)).bind fun bt160 => (if bt160.2.2.2 = 0 then (grapevinelaw06_EpochParts.l3 k5 a0 a1 (y155.set (x52_4 : Int).toNat (⟨bt160.1, bt160.2.1, bt160.2.2.1⟩ : S23)) x52_4 (wrap64 (a0 * a0)) x48_3 (x5_3.length : Int) x52_4 (x5_4.length : Int) (wrap64 (x57_5 + 1))) else (some false))) else (grapevinelaw06_EpochParts.l3 k5 a0 a1 y155 x52_4 (wrap64 (a0 * a0)) x48_3 (x5_3.length : Int) x52_4 (x5_4.length : Int) (wrap64 (x57_5 + 1))))) = some r := by first | (rw [hy155]; with_reducible exact H) | (have H2_ := (Option.bind_some _ _).symm.trans H; rw [hy155]; with_reducible exact H2_) | (have H2_ := (Option.bind_some _ _).symm.trans H; with_reducible exact H2_) | with_reducible exact H | (rw [hy155]; exact H) | exact H
           have Ny155 := Aside0.mk hy155
           clear hy155
           replace H := Option.bind_eq_some_iff.mp H
           obtain ⟨t158, A320, H⟩ := H
           replace H : (if t158 = true then ((epoch_Epochs_Bump.f ((rd_T23 y155 x52_4).f0) ((rd_T23 y155 x52_4).f1) ((rd_T23 y155 x52_4).f2)).bind fun bt160 => (if bt160.2.2.2 = 0 then (grapevinelaw06_EpochParts.l3 k5 a0 a1 (y155.set (x52_4 : Int).toNat (⟨bt160.1, bt160.2.1, bt160.2.2.1⟩ : S23)) x52_4 (wrap64 (a0 * a0)) x48_3 (x5_3.length : Int) x52_4 (x5_4.length : Int) (wrap64 (x57_5 + 1))) else (some false))) else (grapevinelaw06_EpochParts.l3 k5 a0 a1 y155 x52_4 (wrap64 (a0 * a0)) x48_3 (x5_3.length : Int) x52_4 (x5_4.length : Int) (wrap64 (x57_5 + 1)))) = some r := H
           have A32 := Aside0.mk A320
           clear A320
           by_cases c33 : t158 = true
           rotate_left
           ·replace c33 := Bool.eq_false_iff.mpr c33
            subst c33
            have H1 : (grapevinelaw06_EpochParts.l3 k5 a0 a1 y155 x52_4 (wrap64 (a0 * a0)) x48_3 (x5_3.length : Int) x52_4 (x5_4.length : Int) (wrap64 (x57_5 + 1))) = some r := by rw [if_neg (show ¬ (false = true) by decide)] at H; exact H
            clear H
            have H := H1
            clear H1
            have H' := Aside0.mk H
            clear H
            try go_wp2
            have n0_ := Aside0.mk (Kd.R_drew HO_5.out)
            have n1_ := Aside0.mk (below_drew1 HB.out)
            clear HO_5
            clear HB
            have HO_5 := n0_
            have HB := n1_
            clear n0_ n1_
            have p148 : 0 ≤ (x52_4 : Int) := of_decide_eq_true (by first | (with_reducible assumption) | assumption)
            have q148 : x52_4 < (x5_5.length : Int) := of_decide_eq_true (by first | (with_reducible assumption) | assumption)
            obtain ⟨ad148, e148, hx148_0, hx148_1, hx148_2⟩ := at_T23 (Kd.R_reads' HO_5.out).2.2 x52_4 p148 q148
            cases e148
            replace p148 := eq_true p148
            replace q148 := eq_true q148
            have p149 : 0 ≤ (x57_5 : Int) := of_decide_eq_true (by first | (with_reducible assumption) | assumption)
            have q149 : x57_5 < (x5_5.length : Int) := of_decide_eq_true (by first | (with_reducible assumption) | assumption)
            obtain ⟨ad149, e149, hx149_0, hx149_1, hx149_2⟩ := at_T23 (Kd.R_reads' HO_5.out).2.2 x57_5 p149 q149
            obtain rfl : ad148 = ad149 := (by injection e149)
            replace p149 := eq_true p149
            replace q149 := eq_true q149
            refine start_ (n := 16) (S := fun w' => w'.cell? (ad148.add ((x52_4).toNat * 3)) = some (.int .i64 ((rd_T23 x5_5 x52_4).f0)) ∧ w'.cell? ⟨(ad148.add ((x52_4).toNat * 3)).block, (ad148.add ((x52_4).toNat * 3)).off + 1, none⟩ = some (.int .i64 ((rd_T23 x5_5 x52_4).f1)) ∧ w'.cell? ⟨(ad148.add ((x52_4).toNat * 3)).block, (ad148.add ((x52_4).toNat * 3)).off + 2, none⟩ = some (.int .i64 ((rd_T23 x5_5 x52_4).f2)) ∧ w'.cell? (ad148.add ((x57_5).toNat * 3)) = some (.int .i64 ((rd_T23 x5_5 x57_5).f0)) ∧ w'.cell? ⟨(ad148.add ((x57_5).toNat * 3)).block, (ad148.add ((x57_5).toNat * 3)).off + 1, none⟩ = some (.int .i64 ((rd_T23 x5_5 x57_5).f1)) ∧ w'.cell? ⟨(ad148.add ((x57_5).toNat * 3)).block, (ad148.add ((x57_5).toNat * 3)).off + 2, none⟩ = some (.int .i64 ((rd_T23 x5_5 x57_5).f2))) (ds := []) #[false, false, false, false, false, false, false, false, false, false, false, false, false, false, false, false] (by kernel_rfl) rfl rfl ⟨hx148_0, hx148_1, hx148_2, hx149_0, hx149_1, hx149_2⟩ (fun hHeld => ?_); refine with_tabW grapevinelaw06_EpochParts.tab19 grapevinelaw06_EpochParts.bits19 (fun HT_ HW_ => ?_)
            generalize wr.drew = w73 at HO_5 HB hx148_0 hx148_1 hx148_2 hx149_0 hx149_1 hx149_2 hHeld ⊢
            refine pure_ (i := 0) (N := some 61) (v := ?_) (a' := ?_) #[true, false, false, false, false, false, false, false, false, false, false, false, false, false, false, false] rfl rfl (any_of HT_.out (by kernel_rfl)) (fun _ _ _ h => h) (Or.inl ⟨by rfl, ?_⟩) ?_ ?_
            rotate_left
            ·intro w'
             go_simp
             with_reducible rfl
            rotate_left
            ·simp only [Act.put, List.setIfInBounds_toArray, List.set_cons_zero, List.set_cons_succ, i64_w, i32_w]
             rfl
            refine pure_ (i := 1) (N := some 62) (v := ?_) (a' := ?_) #[true, true, false, false, false, false, false, false, false, false, false, false, false, false, false, false] rfl rfl (any_of HT_.out (by kernel_rfl)) (fun _ _ _ h => h) (Or.inl ⟨by rfl, ?_⟩) ?_ ?_
            rotate_left
            ·intro w'
             go_simp
             with_reducible rfl
            rotate_left
            ·simp only [Act.put, List.setIfInBounds_toArray, List.set_cons_zero, List.set_cons_succ, i64_w, i32_w]
             rfl
            refine pure_ (i := 2) (N := some 63) (v := ?_) (a' := ?_) #[true, true, true, false, false, false, false, false, false, false, false, false, false, false, false, false] rfl rfl (any_of HT_.out (by kernel_rfl)) (fun _ _ _ h => h) (Or.inl ⟨by rfl, ?_⟩) ?_ ?_
            rotate_left
            ·intro w'
             go_simp
             with_reducible rfl
            rotate_left
            ·simp only [Act.put, List.setIfInBounds_toArray, List.set_cons_zero, List.set_cons_succ, i64_w, i32_w]
             rfl
            refine pure_ (i := 4) (N := some 65) (v := ?_) (a' := ?_) #[true, true, true, false, true, false, false, false, false, false, false, false, false, false, false, false] rfl rfl (any_of HT_.out (by kernel_rfl)) (fun _ _ _ h => h) (Or.inl ⟨by rfl, ?_⟩) ?_ ?_
            rotate_left
            ·intro w'
             go_simp
             with_reducible rfl
            rotate_left
            ·simp only [Act.put, List.setIfInBounds_toArray, List.set_cons_zero, List.set_cons_succ, i64_w, i32_w]
             rfl
            refine pure_ (i := 5) (N := some 66) (v := ?_) (a' := ?_) #[true, true, true, false, true, true, false, false, false, false, false, false, false, false, false, false] rfl rfl (any_of HT_.out (by kernel_rfl)) (fun _ _ _ h => h) (Or.inl ⟨by rfl, ?_⟩) ?_ ?_
            rotate_left
            ·intro w'
             go_simp
             with_reducible rfl
            rotate_left
            ·simp only [Act.put, List.setIfInBounds_toArray, List.set_cons_zero, List.set_cons_succ, i64_w, i32_w]
             rfl
            refine pure_ (i := 6) (N := some 67) (v := ?_) (a' := ?_) #[true, true, true, false, true, true, true, false, false, false, false, false, false, false, false, false] rfl rfl (any_of HT_.out (by kernel_rfl)) (fun _ _ _ h => h) (Or.inl ⟨by rfl, ?_⟩) ?_ ?_
            rotate_left
            ·intro w'
             go_simp
             with_reducible rfl
            rotate_left
            ·simp only [Act.put, List.setIfInBounds_toArray, List.set_cons_zero, List.set_cons_succ, i64_w, i32_w]
             rfl
            refine pure_ (i := 7) (N := some 68) (v := ?_) (a' := ?_) #[true, true, true, false, true, true, true, true, false, false, false, false, false, false, false, false] rfl rfl (any_of HT_.out (by kernel_rfl)) (fun _ _ _ h => h) (Or.inl ⟨by rfl, ?_⟩) ?_ ?_
            rotate_left
            ·intro w'
             go_simp
             with_reducible rfl
            rotate_left
            ·simp only [Act.put, List.setIfInBounds_toArray, List.set_cons_zero, List.set_cons_succ, i64_w, i32_w]
             rfl
            refine take_ (i := 3) (N := some 64) (v := ?_) (a' := ?_) #[true, true, true, true, true, true, true, true, false, false, false, false, false, false, false, false] rfl rfl (take_ofW HT_.out HW_.out (by kernel_rfl)) (fun _ _ _ h => h) (Or.inl ⟨by rfl, ?_⟩) hHeld ?_ ?_
            rotate_left
            ·rintro w' ⟨s0, s1, s2, s3, s4, s5⟩
             go_simp
             with_reducible rfl
            rotate_left
            ·simp only [Act.put, List.setIfInBounds_toArray, List.set_cons_zero, List.set_cons_succ, i64_w, i32_w]
             rfl
            refine take_ (i := 8) (N := some 69) (v := ?_) (a' := ?_) #[true, true, true, true, true, true, true, true, true, false, false, false, false, false, false, false] rfl rfl (take_ofW HT_.out HW_.out (by kernel_rfl)) (fun _ _ _ h => h) (Or.inl ⟨by rfl, ?_⟩) hHeld ?_ ?_
            rotate_left
            ·rintro w' ⟨s0, s1, s2, s3, s4, s5⟩
             go_simp
             with_reducible rfl
            rotate_left
            ·simp only [Act.put, List.setIfInBounds_toArray, List.set_cons_zero, List.set_cons_succ, i64_w, i32_w]
             rfl
            refine join_ (σ := Nat) 2 #[true, true, true, true, true, true, true, true, true, true, true, true, true, true, false, false] (fun s_ => [(70, .tuple #[.agg #[.int .i64 t150, .int .i64 t151, .int .i64 t152], .int .i64 t153]), (9, .pointer (some ⟨s_, 0, none⟩)), (60, .tuple #[.agg #[.int .i64 t150, .int .i64 t151, .int .i64 t152], .int .i64 t153]), (71, .agg #[.int .i64 t150, .int .i64 t151, .int .i64 t152]), (72, .int .i64 t153)]) (fun s_ w' => (w'.cell? (ad148.add ((x52_4).toNat * 3)) = some (.int .i64 ((rd_T23 x5_5 x52_4).f0)) ∧ w'.cell? ⟨(ad148.add ((x52_4).toNat * 3)).block, (ad148.add ((x52_4).toNat * 3)).off + 1, none⟩ = some (.int .i64 ((rd_T23 x5_5 x52_4).f1)) ∧ w'.cell? ⟨(ad148.add ((x52_4).toNat * 3)).block, (ad148.add ((x52_4).toNat * 3)).off + 2, none⟩ = some (.int .i64 ((rd_T23 x5_5 x52_4).f2)) ∧ w'.cell? (ad148.add ((x57_5).toNat * 3)) = some (.int .i64 ((rd_T23 x5_5 x57_5).f0)) ∧ w'.cell? ⟨(ad148.add ((x57_5).toNat * 3)).block, (ad148.add ((x57_5).toNat * 3)).off + 1, none⟩ = some (.int .i64 ((rd_T23 x5_5 x57_5).f1)) ∧ w'.cell? ⟨(ad148.add ((x57_5).toNat * 3)).block, (ad148.add ((x57_5).toNat * 3)).off + 2, none⟩ = some (.int .i64 ((rd_T23 x5_5 x57_5).f2))) ∧ (Kd.R k23 23 w' w.heap.size (fun k_ => k_ ≠ s_) (.slice (some ad148) x5_5.length co15) x5_5) ∧ (w'.heap[s_]? = some (.cells #[.int .i64 0, .int .i64 0, .int .i64 0] 23 (0, 0))) ∧ (w.heap.size ≤ s_) ∧ (w.heap.size ≤ s_) ∧ (Below w.heap.size w w')) ?_ ?_
            rotate_left
            ·intro hCont
             refine two_ (i := 9) (j := 13) (Ni := some 70) (Nj := some 9) #[true, true, true, true, true, true, true, true, true, true, false, false, false, false, false, false] #[true, true, true, true, true, true, true, true, true, false, false, false, false, true, false, false] rfl rfl rfl rfl (two_of HT_.out (by kernel_rfl)) (by decide) (by decide) (fun K hK => ?_) (fun K hK => ?_)
             ·skip
              refine goes_ Try.func18 (by kernel_rfl) rfl #[.agg #[.int .i64 ((rd_T23 x5_5 x52_4).f0), .int .i64 ((rd_T23 x5_5 x52_4).f1), .int .i64 ((rd_T23 x5_5 x52_4).f2)], .int .i64 ((rd_T23 x5_5 x57_5).f0)] (by rfl) rfl rfl (by (try simp only [List.map_toArray, List.map_cons, List.map_nil]); first | done | rfl | (simp only [List.length_drop, List.length_take]; rfl)) ?_
              with_reducible refine (epoch_Epochs_See.calls ((rd_T23 x5_5 x52_4).f0) ((rd_T23 x5_5 x52_4).f1) ((rd_T23 x5_5 x52_4).f2) ((rd_T23 x5_5 x57_5).f0) t150 t151 t152 t153 _ A29.out).mono ?_
              rintro e w74 ⟨rfl, hb⟩
              have HS0_ := (hb.cell (World.block_lt_of_cell? _ _ (hHeld.1))).trans (hHeld.1)
              have HS1_ := (hb.cell (World.block_lt_of_cell? _ _ (hHeld.2.1))).trans (hHeld.2.1)
              have HS2_ := (hb.cell (World.block_lt_of_cell? _ _ (hHeld.2.2.1))).trans (hHeld.2.2.1)
              have HS3_ := (hb.cell (World.block_lt_of_cell? _ _ (hHeld.2.2.2.1))).trans (hHeld.2.2.2.1)
              have HS4_ := (hb.cell (World.block_lt_of_cell? _ _ (hHeld.2.2.2.2.1))).trans (hHeld.2.2.2.2.1)
              have HS5_ := (hb.cell (World.block_lt_of_cell? _ _ (hHeld.2.2.2.2.2))).trans (hHeld.2.2.2.2.2)
              refine ⟨_, rfl, ?_⟩
              have n0_ := Aside0.mk (Kd.R_below (by (with_reducible repeat (first | apply Kd.R_alloc | apply Kd.R_drewN | apply Kd.R_drew)); exact HO_5.out) hb)
              have n1_ := Aside0.mk (below_step (by repeat (first | (with_reducible first | exact HB.out | apply below_alloc | apply pw_below_drewN | apply below_drew1) | exact HB.out)) hb)
              clear HO_5
              clear HB
              have HO_5 := n0_
              have HB := n1_
              clear n0_ n1_
              (try clear hb)
              (try clear hb2)
              (try clear hk)
              (try clear hi)
              refine hK.out _ _ ⟨HS0_, HS1_, HS2_, HS3_, HS4_, HS5_⟩ (fun hHeld => ?_)
              clear hK K
              refine norm_ (a' := ?_) ?_ ?_
              rotate_left
              ·show Act.put _ (some 70) _ = _
               simp only [Act.put, List.setIfInBounds_toArray, List.set_cons_zero, List.set_cons_succ, i64_w, i32_w]
               rfl
              refine pure_ (i := 10) (N := some 60) (v := ?_) (a' := ?_) #[true, true, true, true, true, true, true, true, true, true, true, false, false, false, false, false] rfl rfl (any_of HT_.out (by kernel_rfl)) (fun _ _ _ h => h) (Or.inl ⟨by rfl, ?_⟩) ?_ ?_
              rotate_left
              ·intro w'
               go_simp
               with_reducible rfl
              rotate_left
              ·simp only [Act.put, List.setIfInBounds_toArray, List.set_cons_zero, List.set_cons_succ, i64_w, i32_w]
               rfl
              refine pure_ (i := 11) (N := some 71) (v := ?_) (a' := ?_) #[true, true, true, true, true, true, true, true, true, true, true, true, false, false, false, false] rfl rfl (any_of HT_.out (by kernel_rfl)) (fun _ _ _ h => h) (Or.inl ⟨by rfl, ?_⟩) ?_ ?_
              rotate_left
              ·intro w'
               go_simp
               with_reducible rfl
              rotate_left
              ·simp only [Act.put, List.setIfInBounds_toArray, List.set_cons_zero, List.set_cons_succ, i64_w, i32_w]
               rfl
              refine pure_ (i := 12) (N := some 72) (v := ?_) (a' := ?_) #[true, true, true, true, true, true, true, true, true, true, true, true, true, false, false, false] rfl rfl (any_of HT_.out (by kernel_rfl)) (fun _ _ _ h => h) (Or.inl ⟨by rfl, ?_⟩) ?_ ?_
              rotate_left
              ·intro w'
               go_simp
               with_reducible rfl
              rotate_left
              ·simp only [Act.put, List.setIfInBounds_toArray, List.set_cons_zero, List.set_cons_succ, i64_w, i32_w]
               rfl
              refine one_ (i := 13) (N := some 9) #[true, true, true, true, true, true, true, true, true, true, true, true, true, true, false, false] rfl rfl (one_of HT_.out (by kernel_rfl)) (by decide) (fun K hK => ?_)
              refine box_step ?hg (N := 9) ?hd (cs := #[.int .i64 0, .int .i64 0, .int .i64 0]) (t := 23) ?hr ?_; (case hd => rfl); (case hg => rfl); (case hr => first | (go_simp; done) | (go_simp; rfl))
              intro gb154 hg w75 hbox hb
              have HS0_ := (hb.cell (World.block_lt_of_cell? _ _ (hHeld.1))).trans (hHeld.1)
              have HS1_ := (hb.cell (World.block_lt_of_cell? _ _ (hHeld.2.1))).trans (hHeld.2.1)
              have HS2_ := (hb.cell (World.block_lt_of_cell? _ _ (hHeld.2.2.1))).trans (hHeld.2.2.1)
              have HS3_ := (hb.cell (World.block_lt_of_cell? _ _ (hHeld.2.2.2.1))).trans (hHeld.2.2.2.1)
              have HS4_ := (hb.cell (World.block_lt_of_cell? _ _ (hHeld.2.2.2.2.1))).trans (hHeld.2.2.2.2.1)
              have HS5_ := (hb.cell (World.block_lt_of_cell? _ _ (hHeld.2.2.2.2.2))).trans (hHeld.2.2.2.2.2)
              have n0_ := Aside0.mk (Kd.R_below (Kd.R_elderB (by (with_reducible repeat (first | apply Kd.R_alloc | apply Kd.R_drewN | apply Kd.R_drew)); exact HO_5.out) gb154 (Nat.le_of_eq hg.symm)) hb)
              have n1_ := Aside0.mk (below_step (by repeat (first | (with_reducible first | exact HB.out | apply below_alloc | apply pw_below_drewN | apply below_drew1) | exact HB.out)) hb)
              have n2_ := Aside0.mk (hbox)
              have n3_ := Aside0.mk ((by rw [hg]; exact (below_size (by repeat (first | (with_reducible first | exact HB.out | apply below_alloc | apply pw_below_drewN | apply below_drew1) | exact HB.out))) : w.heap.size ≤ gb154))
              have n4_ := Aside0.mk ((by rw [hg]; exact (below_size (by repeat (first | (with_reducible first | exact HB.out | apply below_alloc | apply pw_below_drewN | apply below_drew1) | exact HB.out))) : w.heap.size ≤ gb154))
              clear HO_5
              clear HB
              have HO_5 := n0_
              have HB := n1_
              have BK154 := n2_
              have GW154 := n3_
              have GE154 := n4_
              clear n0_ n1_ n2_ n3_ n4_
              clear hb hbox hg
              refine hK.out _ _ ⟨HS0_, HS1_, HS2_, HS3_, HS4_, HS5_⟩ (fun hHeld => ?_)
              clear hK K
              refine norm_ (a' := ?_) ?_ ?_
              rotate_left
              ·show Act.put _ (some 9) _ = _
               simp only [Act.put, List.setIfInBounds_toArray, List.set_cons_zero, List.set_cons_succ, i64_w, i32_w]
               rfl
              exact norm_ (by simp only [putAll, Act.put, List.setIfInBounds_toArray, List.set_cons_zero, List.set_cons_succ]) (hCont (gb154) _ ⟨hHeld, (by (with_reducible repeat (first | apply Kd.R_alloc | apply Kd.R_drewN | apply Kd.R_drew)); exact Kd.R_mono HO_5.out (fun _ hk => hk.2)), (by (with_reducible repeat (first | refine blk_drewN ?_ _ | refine blk_drew ?_ | refine blk_alloc ?_ _)); exact BK154.out), GW154.out, GE154.out, (by repeat (first | (with_reducible first | exact HB.out | apply below_alloc | apply pw_below_drewN | apply below_drew1 | refine below_set ?_ GE154.out) | exact HB.out))⟩)
             ·skip
              refine box_step ?hg (N := 9) ?hd (cs := #[.int .i64 0, .int .i64 0, .int .i64 0]) (t := 23) ?hr ?_; (case hd => rfl); (case hg => rfl); (case hr => first | (go_simp; done) | (go_simp; rfl))
              intro gb154 hg w74 hbox hb
              have HS0_ := (hb.cell (World.block_lt_of_cell? _ _ (hHeld.1))).trans (hHeld.1)
              have HS1_ := (hb.cell (World.block_lt_of_cell? _ _ (hHeld.2.1))).trans (hHeld.2.1)
              have HS2_ := (hb.cell (World.block_lt_of_cell? _ _ (hHeld.2.2.1))).trans (hHeld.2.2.1)
              have HS3_ := (hb.cell (World.block_lt_of_cell? _ _ (hHeld.2.2.2.1))).trans (hHeld.2.2.2.1)
              have HS4_ := (hb.cell (World.block_lt_of_cell? _ _ (hHeld.2.2.2.2.1))).trans (hHeld.2.2.2.2.1)
              have HS5_ := (hb.cell (World.block_lt_of_cell? _ _ (hHeld.2.2.2.2.2))).trans (hHeld.2.2.2.2.2)
              have n0_ := Aside0.mk (Kd.R_below (Kd.R_elderB (by (with_reducible repeat (first | apply Kd.R_alloc | apply Kd.R_drewN | apply Kd.R_drew)); exact HO_5.out) gb154 (Nat.le_of_eq hg.symm)) hb)
              have n1_ := Aside0.mk (below_step (by repeat (first | (with_reducible first | exact HB.out | apply below_alloc | apply pw_below_drewN | apply below_drew1) | exact HB.out)) hb)
              have n2_ := Aside0.mk (hbox)
              have n3_ := Aside0.mk ((by rw [hg]; exact (below_size (by repeat (first | (with_reducible first | exact HB.out | apply below_alloc | apply pw_below_drewN | apply below_drew1) | exact HB.out))) : w.heap.size ≤ gb154))
              have n4_ := Aside0.mk ((by rw [hg]; exact (below_size (by repeat (first | (with_reducible first | exact HB.out | apply below_alloc | apply pw_below_drewN | apply below_drew1) | exact HB.out))) : w.heap.size ≤ gb154))
              clear HO_5
              clear HB
              have HO_5 := n0_
              have HB := n1_
              have BK154 := n2_
              have GW154 := n3_
              have GE154 := n4_
              clear n0_ n1_ n2_ n3_ n4_
              clear hb hbox hg
              refine hK.out _ _ ⟨HS0_, HS1_, HS2_, HS3_, HS4_, HS5_⟩ (fun hHeld => ?_)
              clear hK K
              refine norm_ (a' := ?_) ?_ ?_
              rotate_left
              ·show Act.put _ (some 9) _ = _
               simp only [Act.put, List.setIfInBounds_toArray, List.set_cons_zero, List.set_cons_succ, i64_w, i32_w]
               rfl
              refine one_ (i := 9) (N := some 70) #[true, true, true, true, true, true, true, true, true, true, false, false, false, true, false, false] rfl rfl (one_of HT_.out (by kernel_rfl)) (by decide) (fun K hK => ?_)
              refine goes_ Try.func18 (by kernel_rfl) rfl #[.agg #[.int .i64 ((rd_T23 x5_5 x52_4).f0), .int .i64 ((rd_T23 x5_5 x52_4).f1), .int .i64 ((rd_T23 x5_5 x52_4).f2)], .int .i64 ((rd_T23 x5_5 x57_5).f0)] (by rfl) rfl rfl (by (try simp only [List.map_toArray, List.map_cons, List.map_nil]); first | done | rfl | (simp only [List.length_drop, List.length_take]; rfl)) ?_
              with_reducible refine (epoch_Epochs_See.calls ((rd_T23 x5_5 x52_4).f0) ((rd_T23 x5_5 x52_4).f1) ((rd_T23 x5_5 x52_4).f2) ((rd_T23 x5_5 x57_5).f0) t150 t151 t152 t153 _ A29.out).mono ?_
              rintro e w75 ⟨rfl, hb⟩
              have HS0_ := (hb.cell (World.block_lt_of_cell? _ _ (hHeld.1))).trans (hHeld.1)
              have HS1_ := (hb.cell (World.block_lt_of_cell? _ _ (hHeld.2.1))).trans (hHeld.2.1)
              have HS2_ := (hb.cell (World.block_lt_of_cell? _ _ (hHeld.2.2.1))).trans (hHeld.2.2.1)
              have HS3_ := (hb.cell (World.block_lt_of_cell? _ _ (hHeld.2.2.2.1))).trans (hHeld.2.2.2.1)
              have HS4_ := (hb.cell (World.block_lt_of_cell? _ _ (hHeld.2.2.2.2.1))).trans (hHeld.2.2.2.2.1)
              have HS5_ := (hb.cell (World.block_lt_of_cell? _ _ (hHeld.2.2.2.2.2))).trans (hHeld.2.2.2.2.2)
              refine ⟨_, rfl, ?_⟩
              have n0_ := Aside0.mk (Kd.R_below (by (with_reducible repeat (first | apply Kd.R_alloc | apply Kd.R_drewN | apply Kd.R_drew)); exact HO_5.out) hb)
              have n1_ := Aside0.mk (blk_below (g := gb154) (o := .cells #[.int .i64 0, .int .i64 0, .int .i64 0] 23 (0, 0)) (by (with_reducible repeat (first | refine blk_drewN ?_ _ | refine blk_drew ?_ | refine blk_alloc ?_ _)); exact BK154.out) hb)
              have n2_ := Aside0.mk (below_step (by repeat (first | (with_reducible first | exact HB.out | apply below_alloc | apply pw_below_drewN | apply below_drew1 | refine below_set ?_ GE154.out) | exact HB.out)) hb)
              clear HO_5
              clear BK154
              clear HB
              have HO_5 := n0_
              have BK154 := n1_
              have HB := n2_
              clear n0_ n1_ n2_
              (try clear hb)
              (try clear hb2)
              (try clear hk)
              (try clear hi)
              refine hK.out _ _ ⟨HS0_, HS1_, HS2_, HS3_, HS4_, HS5_⟩ (fun hHeld => ?_)
              clear hK K
              refine norm_ (a' := ?_) ?_ ?_
              rotate_left
              ·show Act.put _ (some 70) _ = _
               simp only [Act.put, List.setIfInBounds_toArray, List.set_cons_zero, List.set_cons_succ, i64_w, i32_w]
               rfl
              refine pure_ (i := 10) (N := some 60) (v := ?_) (a' := ?_) #[true, true, true, true, true, true, true, true, true, true, true, false, false, true, false, false] rfl rfl (any_of HT_.out (by kernel_rfl)) (fun _ _ _ h => h) (Or.inl ⟨by rfl, ?_⟩) ?_ ?_
              rotate_left
              ·intro w'
               go_simp
               with_reducible rfl
              rotate_left
              ·simp only [Act.put, List.setIfInBounds_toArray, List.set_cons_zero, List.set_cons_succ, i64_w, i32_w]
               rfl
              refine pure_ (i := 11) (N := some 71) (v := ?_) (a' := ?_) #[true, true, true, true, true, true, true, true, true, true, true, true, false, true, false, false] rfl rfl (any_of HT_.out (by kernel_rfl)) (fun _ _ _ h => h) (Or.inl ⟨by rfl, ?_⟩) ?_ ?_
              rotate_left
              ·intro w'
               go_simp
               with_reducible rfl
              rotate_left
              ·simp only [Act.put, List.setIfInBounds_toArray, List.set_cons_zero, List.set_cons_succ, i64_w, i32_w]
               rfl
              refine pure_ (i := 12) (N := some 72) (v := ?_) (a' := ?_) #[true, true, true, true, true, true, true, true, true, true, true, true, true, true, false, false] rfl rfl (any_of HT_.out (by kernel_rfl)) (fun _ _ _ h => h) (Or.inl ⟨by rfl, ?_⟩) ?_ ?_
              rotate_left
              ·intro w'
               go_simp
               with_reducible rfl
              rotate_left
              ·simp only [Act.put, List.setIfInBounds_toArray, List.set_cons_zero, List.set_cons_succ, i64_w, i32_w]
               rfl
              exact norm_ (by simp only [putAll, Act.put, List.setIfInBounds_toArray, List.set_cons_zero, List.set_cons_succ]) (hCont (gb154) _ ⟨hHeld, (by (with_reducible repeat (first | apply Kd.R_alloc | apply Kd.R_drewN | apply Kd.R_drew)); exact Kd.R_mono HO_5.out (fun _ hk => hk.2)), (by (with_reducible repeat (first | refine blk_drewN ?_ _ | refine blk_drew ?_ | refine blk_alloc ?_ _)); exact BK154.out), GW154.out, GE154.out, (by repeat (first | (with_reducible first | exact HB.out | apply below_alloc | apply pw_below_drewN | apply below_drew1 | refine below_set ?_ GE154.out) | exact HB.out))⟩)
            rintro gb154 w76 ⟨hS_, h0_, h1_, h2_, h3_, h4_⟩
            have n0_ : Aside0 (Kd.R k23 23 w76 w.heap.size (fun k_ => k_ ≠ gb154) (.slice (some ad148) x5_5.length co15) x5_5) := ⟨h0_⟩
            have n1_ : Aside0 (w76.heap[gb154]? = some (.cells #[.int .i64 0, .int .i64 0, .int .i64 0] 23 (0, 0))) := ⟨h1_⟩
            have n2_ : Aside0 (w.heap.size ≤ gb154) := ⟨h2_⟩
            have n3_ : Aside0 (w.heap.size ≤ gb154) := ⟨h3_⟩
            have n4_ : Aside0 (Below w.heap.size w w76) := ⟨h4_⟩
            clear HO_5
            clear HB
            clear h0_ h1_ h2_ h3_ h4_
            have HO_5 := n0_
            have BK154 := n1_
            have GW154 := n2_
            have GE154 := n3_
            have HB := n4_
            clear n0_ n1_ n2_ n3_ n4_
            have hHeld : w76.cell? (ad148.add ((x52_4).toNat * 3)) = some (.int .i64 ((rd_T23 x5_5 x52_4).f0)) ∧ w76.cell? ⟨(ad148.add ((x52_4).toNat * 3)).block, (ad148.add ((x52_4).toNat * 3)).off + 1, none⟩ = some (.int .i64 ((rd_T23 x5_5 x52_4).f1)) ∧ w76.cell? ⟨(ad148.add ((x52_4).toNat * 3)).block, (ad148.add ((x52_4).toNat * 3)).off + 2, none⟩ = some (.int .i64 ((rd_T23 x5_5 x52_4).f2)) ∧ w76.cell? (ad148.add ((x57_5).toNat * 3)) = some (.int .i64 ((rd_T23 x5_5 x57_5).f0)) ∧ w76.cell? ⟨(ad148.add ((x57_5).toNat * 3)).block, (ad148.add ((x57_5).toNat * 3)).off + 1, none⟩ = some (.int .i64 ((rd_T23 x5_5 x57_5).f1)) ∧ w76.cell? ⟨(ad148.add ((x57_5).toNat * 3)).block, (ad148.add ((x57_5).toNat * 3)).off + 2, none⟩ = some (.int .i64 ((rd_T23 x5_5 x57_5).f2)) := hS_
            refine norm_ (a' := ?_) ?_ ?_
            rotate_left
            ·simp only [putAll, Act.put, List.setIfInBounds_toArray, List.set_cons_zero, List.set_cons_succ]
             rfl
            refine one_ (i := 14) (N := none) #[true, true, true, true, true, true, true, true, true, true, true, true, true, true, true, false] rfl rfl (one_of HT_.out (by kernel_rfl)) (by decide) (fun K hK => ?_)
            have hs77 : w76.cell? ⟨gb154, 0, none⟩ = some (.int .i64 0) := (blk_cell BK154.out 0).trans rfl
            have hfs77 := blk_frozen BK154.out 0
            have hs78 : w76.cell? ⟨gb154, 1, none⟩ = some (.int .i64 0) := (blk_cell BK154.out 1).trans rfl
            have hfs78 := blk_frozen BK154.out 1
            have hs79 : w76.cell? ⟨gb154, 2, none⟩ = some (.int .i64 0) := (blk_cell BK154.out 2).trans rfl
            have hfs79 := blk_frozen BK154.out 2
            refine skip_ (w1 := ?_) (by rfl) rfl ?_ ?_
            rotate_left
            ·go_simp
             rfl
            refine hK.out _ _ ⟨((cell_far (p := ⟨gb154, _, none⟩) (by first | exact Kd.own_blk (Kd.R_away HO_5.out (fun _ hk => hk)) | (simp only [add_block]; exact Kd.own_blk (Kd.R_away HO_5.out (fun _ hk => hk)))) _).trans (((cell_far (p := ⟨gb154, _, none⟩) (by first | exact Kd.own_blk (Kd.R_away HO_5.out (fun _ hk => hk)) | (simp only [add_block]; exact Kd.own_blk (Kd.R_away HO_5.out (fun _ hk => hk)))) _).trans (((cell_far (p := ⟨gb154, _, none⟩) (by first | exact Kd.own_blk (Kd.R_away HO_5.out (fun _ hk => hk)) | (simp only [add_block]; exact Kd.own_blk (Kd.R_away HO_5.out (fun _ hk => hk)))) _).trans (hHeld.1)))))), ((cell_far (p := ⟨gb154, _, none⟩) (by first | exact Kd.own_blk (Kd.R_away HO_5.out (fun _ hk => hk)) | (simp only [add_block]; exact Kd.own_blk (Kd.R_away HO_5.out (fun _ hk => hk)))) _).trans (((cell_far (p := ⟨gb154, _, none⟩) (by first | exact Kd.own_blk (Kd.R_away HO_5.out (fun _ hk => hk)) | (simp only [add_block]; exact Kd.own_blk (Kd.R_away HO_5.out (fun _ hk => hk)))) _).trans (((cell_far (p := ⟨gb154, _, none⟩) (by first | exact Kd.own_blk (Kd.R_away HO_5.out (fun _ hk => hk)) | (simp only [add_block]; exact Kd.own_blk (Kd.R_away HO_5.out (fun _ hk => hk)))) _).trans (hHeld.2.1)))))), ((cell_far (p := ⟨gb154, _, none⟩) (by first | exact Kd.own_blk (Kd.R_away HO_5.out (fun _ hk => hk)) | (simp only [add_block]; exact Kd.own_blk (Kd.R_away HO_5.out (fun _ hk => hk)))) _).trans (((cell_far (p := ⟨gb154, _, none⟩) (by first | exact Kd.own_blk (Kd.R_away HO_5.out (fun _ hk => hk)) | (simp only [add_block]; exact Kd.own_blk (Kd.R_away HO_5.out (fun _ hk => hk)))) _).trans (((cell_far (p := ⟨gb154, _, none⟩) (by first | exact Kd.own_blk (Kd.R_away HO_5.out (fun _ hk => hk)) | (simp only [add_block]; exact Kd.own_blk (Kd.R_away HO_5.out (fun _ hk => hk)))) _).trans (hHeld.2.2.1)))))), ((cell_far (p := ⟨gb154, _, none⟩) (by first | exact Kd.own_blk (Kd.R_away HO_5.out (fun _ hk => hk)) | (simp only [add_block]; exact Kd.own_blk (Kd.R_away HO_5.out (fun _ hk => hk)))) _).trans (((cell_far (p := ⟨gb154, _, none⟩) (by first | exact Kd.own_blk (Kd.R_away HO_5.out (fun _ hk => hk)) | (simp only [add_block]; exact Kd.own_blk (Kd.R_away HO_5.out (fun _ hk => hk)))) _).trans (((cell_far (p := ⟨gb154, _, none⟩) (by first | exact Kd.own_blk (Kd.R_away HO_5.out (fun _ hk => hk)) | (simp only [add_block]; exact Kd.own_blk (Kd.R_away HO_5.out (fun _ hk => hk)))) _).trans (hHeld.2.2.2.1)))))), ((cell_far (p := ⟨gb154, _, none⟩) (by first | exact Kd.own_blk (Kd.R_away HO_5.out (fun _ hk => hk)) | (simp only [add_block]; exact Kd.own_blk (Kd.R_away HO_5.out (fun _ hk => hk)))) _).trans (((cell_far (p := ⟨gb154, _, none⟩) (by first | exact Kd.own_blk (Kd.R_away HO_5.out (fun _ hk => hk)) | (simp only [add_block]; exact Kd.own_blk (Kd.R_away HO_5.out (fun _ hk => hk)))) _).trans (((cell_far (p := ⟨gb154, _, none⟩) (by first | exact Kd.own_blk (Kd.R_away HO_5.out (fun _ hk => hk)) | (simp only [add_block]; exact Kd.own_blk (Kd.R_away HO_5.out (fun _ hk => hk)))) _).trans (hHeld.2.2.2.2.1)))))), ((cell_far (p := ⟨gb154, _, none⟩) (by first | exact Kd.own_blk (Kd.R_away HO_5.out (fun _ hk => hk)) | (simp only [add_block]; exact Kd.own_blk (Kd.R_away HO_5.out (fun _ hk => hk)))) _).trans (((cell_far (p := ⟨gb154, _, none⟩) (by first | exact Kd.own_blk (Kd.R_away HO_5.out (fun _ hk => hk)) | (simp only [add_block]; exact Kd.own_blk (Kd.R_away HO_5.out (fun _ hk => hk)))) _).trans (((cell_far (p := ⟨gb154, _, none⟩) (by first | exact Kd.own_blk (Kd.R_away HO_5.out (fun _ hk => hk)) | (simp only [add_block]; exact Kd.own_blk (Kd.R_away HO_5.out (fun _ hk => hk)))) _).trans (hHeld.2.2.2.2.2))))))⟩ (fun hHeld => ?_)
            clear hK K
            refine pure_ (i := 15) (N := some 10) (v := ?_) (a' := ?_) #[true, true, true, true, true, true, true, true, true, true, true, true, true, true, true, true] rfl rfl (any_of HT_.out (by kernel_rfl)) (fun _ _ _ h => h) (Or.inl ⟨by rfl, ?_⟩) ?_ ?_
            rotate_left
            ·intro w'
             go_simp
             with_reducible rfl
            rotate_left
            ·simp only [Act.put, List.setIfInBounds_toArray, List.set_cons_zero, List.set_cons_succ, i64_w, i32_w]
             rfl
            refine done_ (done_of HT_.out (by kernel_rfl)) ?_
            have n0_ : Aside0 (Kd.R k23 23 (((w76.setCell ⟨gb154, 0, none⟩ (.int .i64 t150)).setCell ⟨gb154, 1, none⟩ (.int .i64 t151)).setCell ⟨gb154, 2, none⟩ (.int .i64 t152)) w.heap.size (fun k_ => k_ ≠ gb154) (.slice (some ad148) x5_5.length co15) x5_5) := ⟨by (with_reducible repeat (first | apply Kd.R_alloc | apply Kd.R_drewN | apply Kd.R_drew)); exact Kd.R_mono (Kd.R_far (p := ⟨gb154, 2, none⟩) (Kd.R_far (p := ⟨gb154, 1, none⟩) (Kd.R_far (p := ⟨gb154, 0, none⟩) (Kd.R_mono HO_5.out (fun k_ hk => (⟨hk, hk⟩ : _ ∧ k_ ≠ gb154))) (fun _ hk => hk.2) (.int .i64 t150)) (fun _ hk => hk.2) (.int .i64 t151)) (fun _ hk => hk.2) (.int .i64 t152)) (fun _ hk => hk.1)⟩
            have n1_ : Aside0 ((((w76.setCell ⟨gb154, 0, none⟩ (.int .i64 t150)).setCell ⟨gb154, 1, none⟩ (.int .i64 t151)).setCell ⟨gb154, 2, none⟩ (.int .i64 t152)).heap[gb154]? = some (.cells #[.int .i64 t150, .int .i64 t151, .int .i64 t152] 23 (0, 0))) := ⟨by (with_reducible repeat (first | refine blk_drewN ?_ _ | refine blk_drew ?_ | refine blk_alloc ?_ _)); refine blk_put (cs := #[.int .i64 t150, .int .i64 t151, .int .i64 0]) ?_ 2 _ rfl; (with_reducible repeat (first | refine blk_drewN ?_ _ | refine blk_drew ?_ | refine blk_alloc ?_ _)); refine blk_put (cs := #[.int .i64 t150, .int .i64 0, .int .i64 0]) ?_ 1 _ rfl; (with_reducible repeat (first | refine blk_drewN ?_ _ | refine blk_drew ?_ | refine blk_alloc ?_ _)); refine blk_put (cs := #[.int .i64 0, .int .i64 0, .int .i64 0]) ?_ 0 _ rfl; (with_reducible repeat (first | refine blk_drewN ?_ _ | refine blk_drew ?_ | refine blk_alloc ?_ _)); exact BK154.out⟩
            have n2_ : Aside0 (Below w.heap.size w (((w76.setCell ⟨gb154, 0, none⟩ (.int .i64 t150)).setCell ⟨gb154, 1, none⟩ (.int .i64 t151)).setCell ⟨gb154, 2, none⟩ (.int .i64 t152))) := ⟨by repeat (first | (with_reducible first | exact HB.out | apply below_alloc | apply pw_below_drewN | apply below_drew1 | refine below_set ?_ GE154.out) | exact HB.out)⟩
            (try clear HO_5)
            (try clear BK154)
            (try clear HB)
            generalize (((w76.setCell ⟨gb154, 0, none⟩ (.int .i64 t150)).setCell ⟨gb154, 1, none⟩ (.int .i64 t151)).setCell ⟨gb154, 2, none⟩ (.int .i64 t152)) = w80 at n0_ n1_ n2_ ⊢
            have HO_5 := n0_
            have BK154 := n1_
            have HB := n2_
            clear n0_ n1_ n2_
            have hcz81_0 : w80.cell? ⟨gb154, 0, none⟩ = some (.int .i64 t150) := (blk_cell BK154.out 0).trans rfl
            have hcz81_1 : w80.cell? ⟨gb154, 1, none⟩ = some (.int .i64 t151) := (blk_cell BK154.out 1).trans rfl
            have hcz81_2 : w80.cell? ⟨gb154, 2, none⟩ = some (.int .i64 t152) := (blk_cell BK154.out 2).trans rfl
            have hfz81_0 := blk_frozen BK154.out 0
            have hfz81_1 := blk_frozen BK154.out 1
            have hfz81_2 := blk_frozen BK154.out 2
            have p31 : 0 ≤ (x52_4 : Int) := of_decide_eq_true (by first | (with_reducible assumption) | assumption)
            have q31 : (x52_4 : Int) < ((x5_5.length : Int) : Int) := of_decide_eq_true (by first | (with_reducible assumption) | assumption)
            obtain ⟨go31, co31, eo31, gb31, gl31, cl31, HG31⟩ := Kd.R_form HO_5.out (by omega)
            (first | cases eo31 | (injection eo31 with ea_ en_ ec_; (first | subst ea_ | (injection ea_ with ea_; subst ea_)); subst ec_; clear en_))
            have GB31 := Aside0.mk gb31
            have GG31 := Aside0.mk HG31
            clear gb31 gl31 HG31
            (first | simp only [add_plain] at hx148_0 | skip)
            (first | simp only [add_plain] at hx148_1 | skip)
            (first | simp only [add_plain] at hx148_2 | skip)
            (first | simp only [add_plain] at hx149_0 | skip)
            (first | simp only [add_plain] at hx149_1 | skip)
            (first | simp only [add_plain] at hx149_2 | skip)
            obtain ⟨ce31, hcl31, hM31, hcc31, hfr31⟩ := Kd.R_elem HO_5.out z23 (x52_4 : Int) p31 q31
            obtain rfl := k23_openM hM31
            have hx31_0 : w80.cell? ⟨go31, (x52_4 : Int).toNat * 3, none⟩ = some (.int .i64 ((rd_T23 x5_5 x52_4).f0)) := hcc31 0 _ rfl
            have hx31_1 : w80.cell? ⟨go31, (x52_4 : Int).toNat * 3 + 1, none⟩ = some (.int .i64 ((rd_T23 x5_5 x52_4).f1)) := hcc31 1 _ rfl
            have hx31_2 : w80.cell? ⟨go31, (x52_4 : Int).toNat * 3 + 2, none⟩ = some (.int .i64 ((rd_T23 x5_5 x52_4).f2)) := hcc31 2 _ rfl
            have hf31_0 : w80.frozen? ⟨go31, (x52_4 : Int).toNat * 3, none⟩ = false := hfr31 0
            have hf31_1 : w80.frozen? ⟨go31, (x52_4 : Int).toNat * 3 + 1, none⟩ = false := hfr31 1
            have hf31_2 : w80.frozen? ⟨go31, (x52_4 : Int).toNat * 3 + 2, none⟩ = false := hfr31 2
            clear hcl31 hcc31 hfr31 hM31
            replace p31 := eq_true p31
            replace q31 := eq_true q31
            have HX82 := Aside0.mk (show Kd.R k23 23 w80 w.heap.size (fun k_ => k_ ≠ gb154) (.slice (some ⟨go31, 0, none⟩) x5_5.length co15) x5_5 from (by (with_reducible repeat (first | apply Kd.R_alloc | apply Kd.R_drewN | apply Kd.R_drew)); exact HO_5.out))
            obtain ⟨ce82, hcl82, hM82, hcc82, hfr82⟩ := Kd.R_elem HX82.out z23 (x52_4 : Int) (of_decide_eq_true (by first | (with_reducible assumption) | assumption)) (by have h_ : (x52_4 : Int) < ((x5_5.length : Int) : Int) := of_decide_eq_true (by first | (with_reducible assumption) | assumption); first | exact h_ | (have e_ := (Kd.R_reads' HO_5.out).1; omega) | simpa using h_)
            obtain rfl := k23_openM hM82
            have HP82 := Kd.R_seg HX82.out (x52_4 : Int) (of_decide_eq_true (by first | (with_reducible assumption) | assumption)) (by have h_ : (x52_4 : Int) < ((x5_5.length : Int) : Int) := of_decide_eq_true (by first | (with_reducible assumption) | assumption); first | exact h_ | (have e_ := (Kd.R_reads' HO_5.out).1; omega) | simpa using h_) (seg := [.int .i64 t150, .int .i64 t151, .int .i64 t152]) (j := 0) hcl82 hcc82 (show 3 ≤ 3 from by decide) (x' := (⟨t150, t151, t152⟩ : S23)) (k23_mkM _ _ _ (⟨t150, t151, t152⟩ : S23) ) (fun _ hk => hk)
            have hx82_0 := hcc82 0 _ rfl
            (try simp only [show (k23).sz = 3 from rfl, Nat.mul_one, Nat.add_zero] at hx82_0)
            have hf82_0 := hfr82 0
            (try simp only [show (k23).sz = 3 from rfl, Nat.mul_one, Nat.add_zero] at hf82_0)
            have hx82_1 := hcc82 1 _ rfl
            (try simp only [show (k23).sz = 3 from rfl, Nat.mul_one, Nat.add_zero] at hx82_1)
            have hf82_1 := hfr82 1
            (try simp only [show (k23).sz = 3 from rfl, Nat.mul_one, Nat.add_zero] at hf82_1)
            have hx82_2 := hcc82 2 _ rfl
            (try simp only [show (k23).sz = 3 from rfl, Nat.mul_one, Nat.add_zero] at hx82_2)
            have hf82_2 := hfr82 2
            (try simp only [show (k23).sz = 3 from rfl, Nat.mul_one, Nat.add_zero] at hf82_2)
            clear hcl82 hcc82 hfr82 hM82
            try go_wp2_with (first | ((with_reducible refine gate_store (t := 23) (p := 78) rfl ?_); refine store_event (t := 23) (p := 78) (v := ?vo_w83) (w1 := (((w80.setCell ⟨go31, (x52_4 : Int).toNat * 3, none⟩ (.int .i64 t150)).setCell ⟨go31, (x52_4 : Int).toNat * 3 + 1, none⟩ (.int .i64 t151)).setCell ⟨go31, (x52_4 : Int).toNat * 3 + 2, none⟩ (.int .i64 t152))) ?hg ?ho ?hn ?hr ?_; (case ho => rfl); (case hg => rfl); (case hn => rfl); (case hr => first | (go_simp; done) | (go_simp; rfl)); intro w83 hw; have hg : w80.grownBy w83 (some go31) := (by rw [hw]; exact HP82.2); have hp_ : Kd.R k23 23 w83 w.heap.size (fun k_ => k_ ≠ gb154) (.slice (some ⟨go31, 0, none⟩) x5_5.length co15) y155 := (by rw [hw, Ny155.out]; exact HP82.1); clear HP82; have n0_ := Aside0.mk (hp_); have n1_ := Aside0.mk (blk_grown (g := gb154) (o := .cells #[.int .i64 t150, .int .i64 t151, .int .i64 t152] 23 (0, 0)) (by (with_reducible repeat (first | refine blk_drewN ?_ _ | refine blk_drew ?_ | refine blk_alloc ?_ _)); exact BK154.out) hg (Kd.R_away HO_5.out (fun _ hk => hk))); have n2_ := Aside0.mk ((by rw [hw]; exact below_set (below_set (below_set (HB.out) GB31.out) GB31.out) GB31.out : Below w.heap.size w w83)); clear HO_5; clear BK154; clear HB; have HO_5 := n0_; have BK154 := n1_; have HB := n2_; clear n0_ n1_ n2_; clear hg hw hp_))
            have n0_ := Aside0.mk (Kd.R_drew HO_5.out)
            have n1_ := Aside0.mk (blk_drew BK154.out)
            have n2_ := Aside0.mk (below_drew1 HB.out)
            clear HO_5
            clear BK154
            clear HB
            have HO_5 := n0_
            have BK154 := n1_
            have HB := n2_
            clear n0_ n1_ n2_
            have p156 : 0 ≤ (x52_4 : Int) := of_decide_eq_true (by first | (with_reducible assumption) | assumption)
            have q156 : x52_4 < (y155.length : Int) := (by have h_ : (x52_4 : Int) < ((x5_5.length : Int) : Int) := of_decide_eq_true (by first | (with_reducible assumption) | assumption); first | (have e_ := (Kd.R_reads' HO_5.out).1; omega) | simpa only [Ny155.out, List.length_set] using h_)
            have ql156 : ((x52_4 : Int) < ((x5_5.length : Int) : Int)) = True := eq_true (of_decide_eq_true (by first | (with_reducible assumption) | assumption))
            obtain ⟨ad156, e156, hx156_0, hx156_1, hx156_2⟩ := at_T23 (Kd.R_reads' HO_5.out).2.2 x52_4 p156 q156
            obtain rfl : (⟨go31, 0, none⟩ : Addr) = ad156 := (by injection e156)
            (first | simp only [add_plain] at hx156_0 | simp only [add_at] at hx156_0 | simp only [Addr.add, Nat.zero_add] at hx156_0 | skip)
            (first | simp only [add_plain] at hx156_1 | simp only [add_at] at hx156_1 | simp only [Addr.add, Nat.zero_add] at hx156_1 | skip)
            (first | simp only [add_plain] at hx156_2 | simp only [add_at] at hx156_2 | simp only [Addr.add, Nat.zero_add] at hx156_2 | skip)
            replace p156 := eq_true p156
            replace q156 := eq_true q156
            have p157 : 0 ≤ (x57_5 : Int) := of_decide_eq_true (by first | (with_reducible assumption) | assumption)
            have q157 : x57_5 < (y155.length : Int) := (by have h_ : (x57_5 : Int) < ((x5_5.length : Int) : Int) := of_decide_eq_true (by first | (with_reducible assumption) | assumption); first | (have e_ := (Kd.R_reads' HO_5.out).1; omega) | simpa only [Ny155.out, List.length_set] using h_)
            have ql157 : ((x57_5 : Int) < ((x5_5.length : Int) : Int)) = True := eq_true (of_decide_eq_true (by first | (with_reducible assumption) | assumption))
            obtain ⟨ad157, e157, hx157_0, hx157_1, hx157_2⟩ := at_T23 (Kd.R_reads' HO_5.out).2.2 x57_5 p157 q157
            obtain rfl : (⟨go31, 0, none⟩ : Addr) = ad157 := (by injection e157)
            (first | simp only [add_plain] at hx157_0 | simp only [add_at] at hx157_0 | simp only [Addr.add, Nat.zero_add] at hx157_0 | skip)
            (first | simp only [add_plain] at hx157_1 | simp only [add_at] at hx157_1 | simp only [Addr.add, Nat.zero_add] at hx157_1 | skip)
            (first | simp only [add_plain] at hx157_2 | simp only [add_at] at hx157_2 | simp only [Addr.add, Nat.zero_add] at hx157_2 | skip)
            replace p157 := eq_true p157
            replace q157 := eq_true q157
            refine start_ (n := 15) (S := fun w' => w'.cell? ⟨go31, (x52_4).toNat * 3, none⟩ = some (.int .i64 ((rd_T23 y155 x52_4).f0)) ∧ w'.cell? ⟨go31, (x52_4).toNat * 3 + 1, none⟩ = some (.int .i64 ((rd_T23 y155 x52_4).f1)) ∧ w'.cell? ⟨go31, (x52_4).toNat * 3 + 2, none⟩ = some (.int .i64 ((rd_T23 y155 x52_4).f2)) ∧ w'.cell? ⟨go31, (x57_5).toNat * 3, none⟩ = some (.int .i64 ((rd_T23 y155 x57_5).f0)) ∧ w'.cell? ⟨go31, (x57_5).toNat * 3 + 1, none⟩ = some (.int .i64 ((rd_T23 y155 x57_5).f1)) ∧ w'.cell? ⟨go31, (x57_5).toNat * 3 + 2, none⟩ = some (.int .i64 ((rd_T23 y155 x57_5).f2))) (ds := []) #[false, false, false, false, false, false, false, false, false, false, false, false, false, false, false] (by kernel_rfl) rfl rfl ⟨hx156_0, hx156_1, hx156_2, hx157_0, hx157_1, hx157_2⟩ (fun hHeld => ?_); refine with_tabW grapevinelaw06_EpochParts.tab23 grapevinelaw06_EpochParts.bits23 (fun HT_ HW_ => ?_)
            generalize w83.drew = w84 at HO_5 BK154 HB hx156_0 hx156_1 hx156_2 hx157_0 hx157_1 hx157_2 hHeld ⊢
            refine pure_ (i := 0) (N := some 79) (v := ?_) (a' := ?_) #[true, false, false, false, false, false, false, false, false, false, false, false, false, false, false] rfl rfl (any_of HT_.out (by kernel_rfl)) (fun _ _ _ h => h) (Or.inl ⟨by rfl, ?_⟩) ?_ ?_
            rotate_left
            ·intro w'
             go_simp
             with_reducible rfl
            rotate_left
            ·simp only [Act.put, List.setIfInBounds_toArray, List.set_cons_zero, List.set_cons_succ, i64_w, i32_w]
             rfl
            refine pure_ (i := 1) (N := some 80) (v := ?_) (a' := ?_) #[true, true, false, false, false, false, false, false, false, false, false, false, false, false, false] rfl rfl (any_of HT_.out (by kernel_rfl)) (fun _ _ _ h => h) (Or.inl ⟨by rfl, ?_⟩) ?_ ?_
            rotate_left
            ·intro w'
             go_simp
             with_reducible rfl
            rotate_left
            ·simp only [Act.put, List.setIfInBounds_toArray, List.set_cons_zero, List.set_cons_succ, i64_w, i32_w]
             rfl
            refine pure_ (i := 2) (N := some 81) (v := ?_) (a' := ?_) #[true, true, true, false, false, false, false, false, false, false, false, false, false, false, false] rfl rfl (any_of HT_.out (by kernel_rfl)) (fun _ _ _ h => h) (Or.inl ⟨by rfl, ?_⟩) ?_ ?_
            rotate_left
            ·intro w'
             go_simp
             with_reducible rfl
            rotate_left
            ·simp only [Act.put, List.setIfInBounds_toArray, List.set_cons_zero, List.set_cons_succ, i64_w, i32_w]
             rfl
            refine pure_ (i := 3) (N := some 82) (v := ?_) (a' := ?_) #[true, true, true, true, false, false, false, false, false, false, false, false, false, false, false] rfl rfl (any_of HT_.out (by kernel_rfl)) (fun _ _ _ h => h) (Or.inl ⟨by rfl, ?_⟩) ?_ ?_
            rotate_left
            ·intro w'
             go_simp
             with_reducible rfl
            rotate_left
            ·simp only [Act.put, List.setIfInBounds_toArray, List.set_cons_zero, List.set_cons_succ, i64_w, i32_w]
             rfl
            refine pure_ (i := 4) (N := some 83) (v := ?_) (a' := ?_) #[true, true, true, true, true, false, false, false, false, false, false, false, false, false, false] rfl rfl (any_of HT_.out (by kernel_rfl)) (fun _ _ _ h => h) (Or.inl ⟨by rfl, ?_⟩) ?_ ?_
            rotate_left
            ·intro w'
             go_simp
             with_reducible rfl
            rotate_left
            ·simp only [Act.put, List.setIfInBounds_toArray, List.set_cons_zero, List.set_cons_succ, i64_w, i32_w]
             rfl
            refine pure_ (i := 5) (N := some 84) (v := ?_) (a' := ?_) #[true, true, true, true, true, true, false, false, false, false, false, false, false, false, false] rfl rfl (any_of HT_.out (by kernel_rfl)) (fun _ _ _ h => h) (Or.inl ⟨by rfl, ?_⟩) ?_ ?_
            rotate_left
            ·intro w'
             go_simp
             with_reducible rfl
            rotate_left
            ·simp only [Act.put, List.setIfInBounds_toArray, List.set_cons_zero, List.set_cons_succ, i64_w, i32_w]
             rfl
            refine pure_ (i := 6) (N := some 85) (v := ?_) (a' := ?_) #[true, true, true, true, true, true, true, false, false, false, false, false, false, false, false] rfl rfl (any_of HT_.out (by kernel_rfl)) (fun _ _ _ h => h) (Or.inl ⟨by rfl, ?_⟩) ?_ ?_
            rotate_left
            ·intro w'
             go_simp
             with_reducible rfl
            rotate_left
            ·simp only [Act.put, List.setIfInBounds_toArray, List.set_cons_zero, List.set_cons_succ, i64_w, i32_w]
             rfl
            refine pure_ (i := 7) (N := some 86) (v := ?_) (a' := ?_) #[true, true, true, true, true, true, true, true, false, false, false, false, false, false, false] rfl rfl (any_of HT_.out (by kernel_rfl)) (fun _ _ _ h => h) (Or.inl ⟨by rfl, ?_⟩) ?_ ?_
            rotate_left
            ·intro w'
             go_simp
             with_reducible rfl
            rotate_left
            ·simp only [Act.put, List.setIfInBounds_toArray, List.set_cons_zero, List.set_cons_succ, i64_w, i32_w]
             rfl
            refine pure_ (i := 9) (N := some 88) (v := ?_) (a' := ?_) #[true, true, true, true, true, true, true, true, false, true, false, false, false, false, false] rfl rfl (any_of HT_.out (by kernel_rfl)) (fun _ _ _ h => h) (Or.inl ⟨by rfl, ?_⟩) ?_ ?_
            rotate_left
            ·intro w'
             go_simp
             with_reducible rfl
            rotate_left
            ·simp only [Act.put, List.setIfInBounds_toArray, List.set_cons_zero, List.set_cons_succ, i64_w, i32_w]
             rfl
            refine pure_ (i := 10) (N := some 89) (v := ?_) (a' := ?_) #[true, true, true, true, true, true, true, true, false, true, true, false, false, false, false] rfl rfl (any_of HT_.out (by kernel_rfl)) (fun _ _ _ h => h) (Or.inl ⟨by rfl, ?_⟩) ?_ ?_
            rotate_left
            ·intro w'
             go_simp
             with_reducible rfl
            rotate_left
            ·simp only [Act.put, List.setIfInBounds_toArray, List.set_cons_zero, List.set_cons_succ, i64_w, i32_w]
             rfl
            refine pure_ (i := 11) (N := some 90) (v := ?_) (a' := ?_) #[true, true, true, true, true, true, true, true, false, true, true, true, false, false, false] rfl rfl (any_of HT_.out (by kernel_rfl)) (fun _ _ _ h => h) (Or.inl ⟨by rfl, ?_⟩) ?_ ?_
            rotate_left
            ·intro w'
             go_simp
             with_reducible rfl
            rotate_left
            ·simp only [Act.put, List.setIfInBounds_toArray, List.set_cons_zero, List.set_cons_succ, i64_w, i32_w]
             rfl
            refine pure_ (i := 12) (N := some 91) (v := ?_) (a' := ?_) #[true, true, true, true, true, true, true, true, false, true, true, true, true, false, false] rfl rfl (any_of HT_.out (by kernel_rfl)) (fun _ _ _ h => h) (Or.inl ⟨by rfl, ?_⟩) ?_ ?_
            rotate_left
            ·intro w'
             go_simp
             with_reducible rfl
            rotate_left
            ·simp only [Act.put, List.setIfInBounds_toArray, List.set_cons_zero, List.set_cons_succ, i64_w, i32_w]
             rfl
            refine take_ (i := 8) (N := some 87) (v := ?_) (a' := ?_) #[true, true, true, true, true, true, true, true, true, true, true, true, true, false, false] rfl rfl (take_ofW HT_.out HW_.out (by kernel_rfl)) (fun _ _ _ h => h) (Or.inl ⟨by rfl, ?_⟩) hHeld ?_ ?_
            rotate_left
            ·rintro w' ⟨s0, s1, s2, s3, s4, s5⟩
             go_simp
             with_reducible rfl
            rotate_left
            ·simp only [Act.put, List.setIfInBounds_toArray, List.set_cons_zero, List.set_cons_succ, i64_w, i32_w]
             rfl
            refine take_ (i := 13) (N := some 92) (v := ?_) (a' := ?_) #[true, true, true, true, true, true, true, true, true, true, true, true, true, true, false] rfl rfl (take_ofW HT_.out HW_.out (by kernel_rfl)) (fun _ _ _ h => h) (Or.inl ⟨by rfl, ?_⟩) hHeld ?_ ?_
            rotate_left
            ·rintro w' ⟨s0, s1, s2, s3, s4, s5⟩
             go_simp
             with_reducible rfl
            rotate_left
            ·simp only [Act.put, List.setIfInBounds_toArray, List.set_cons_zero, List.set_cons_succ, i64_w, i32_w]
             rfl
            refine one_ (i := 14) (N := some 93) #[true, true, true, true, true, true, true, true, true, true, true, true, true, true, true] rfl rfl (one_of HT_.out (by kernel_rfl)) (by decide) (fun K hK => ?_)
            refine goes_ Try.func17 (by kernel_rfl) rfl #[.int .i64 (wrap64 (x52_4 + 1)), .int .i64 (wrap64 (x57_5 + 1)), .int .i64 ((rd_T23 y155 x52_4).f2), .int .i64 ((rd_T23 y155 x57_5).f2)] (by rfl) rfl rfl (by (try simp only [List.map_toArray, List.map_cons, List.map_nil]); first | done | rfl | (simp only [List.length_drop, List.length_take]; rfl)) ?_
            with_reducible refine (epoch_Yields.calls (wrap64 (x52_4 + 1)) (wrap64 (x57_5 + 1)) ((rd_T23 y155 x52_4).f2) ((rd_T23 y155 x57_5).f2) false _ A32.out).mono ?_
            rintro e w' ⟨rfl, ⟨nd, rfl⟩⟩
            refine ⟨_, rfl, ?_⟩
            refine hK.out _ _ ⟨hHeld.1, hHeld.2.1, hHeld.2.2.1, hHeld.2.2.2.1, hHeld.2.2.2.2.1, hHeld.2.2.2.2.2⟩ (fun hHeld => ?_)
            clear hK K
            refine norm_ (a' := ?_) ?_ ?_
            rotate_left
            ·show Act.put _ (some 93) _ = _
             simp only [Act.put, List.setIfInBounds_toArray, List.set_cons_zero, List.set_cons_succ, i64_w, i32_w]
             rfl
            refine done_ (done_of HT_.out (by kernel_rfl)) ?_
            try go_wp2
            (try simp only [← hl5_5])
            go_roundg k5
            case measure => have := HJ4.out; have := HK2.out; have := HK3.out; have := HK4.out; have := HK5.out; omega
            case rel => exact ⟨(y155), (wrap64 (x57_5 + 1)), (by first | rfl | (simp; done) | (simp [*]; done)), H', ⟨by have := HJ4.out; have := HK2.out; have := HK3.out; have := HK4.out; have := HK5.out; omega⟩, ⟨by (try simp only [hl5_2]); (try simp only [hl5_3]); (try simp only [hl5_4]); (try simp only [hl5_5]); (with_reducible repeat (first | apply Kd.R_alloc | apply Kd.R_drewN | apply Kd.R_drew)); exact Kd.R_mono HO_5.out (fun _ hk => trivial)⟩, ⟨by repeat (first | (with_reducible first | exact HB.out | apply below_alloc | apply pw_below_drewN | apply below_drew1 | refine below_set ?_ GE154.out) | exact HB.out)⟩⟩
           subst c33
           have H1 : ((epoch_Epochs_Bump.f ((rd_T23 y155 x52_4).f0) ((rd_T23 y155 x52_4).f1) ((rd_T23 y155 x52_4).f2)).bind fun bt160 => (if bt160.2.2.2 = 0 then (grapevinelaw06_EpochParts.l3 k5 a0 a1 (y155.set (x52_4 : Int).toNat (⟨bt160.1, bt160.2.1, bt160.2.2.1⟩ : S23)) x52_4 (wrap64 (a0 * a0)) x48_3 (x5_3.length : Int) x52_4 (x5_4.length : Int) (wrap64 (x57_5 + 1))) else (some false))) = some r := by rw [if_pos rfl] at H; exact H
           clear H
           have H := H1
           clear H1
           replace H := Option.bind_eq_some_iff.mp H
           obtain ⟨⟨t160, t161, t162, t163⟩, A340, H⟩ := H
           replace H : (if t163 = 0 then (grapevinelaw06_EpochParts.l3 k5 a0 a1 (y155.set (x52_4 : Int).toNat (⟨t160, t161, t162⟩ : S23)) x52_4 (wrap64 (a0 * a0)) x48_3 (x5_3.length : Int) x52_4 (x5_4.length : Int) (wrap64 (x57_5 + 1))) else (some false)) = some r := H
           have A34 := Aside0.mk A340
           clear A340
           by_cases c35 : t163 = 0
           rotate_left
           ·rw [if_neg c35] at H
            have c35b0 : (t163 == 0) = false := beq_eq_false_iff_ne.mpr c35
            have c35b1 : (t163 != 0) = true := bne_iff_ne.mpr c35
            obtain rfl := Option.some.inj H
            try go_wp2
            have n0_ := Aside0.mk (Kd.R_drew HO_5.out)
            have n1_ := Aside0.mk (below_drew1 HB.out)
            clear HO_5
            clear HB
            have HO_5 := n0_
            have HB := n1_
            clear n0_ n1_
            have p148 : 0 ≤ (x52_4 : Int) := of_decide_eq_true (by first | (with_reducible assumption) | assumption)
            have q148 : x52_4 < (x5_5.length : Int) := of_decide_eq_true (by first | (with_reducible assumption) | assumption)
            obtain ⟨ad148, e148, hx148_0, hx148_1, hx148_2⟩ := at_T23 (Kd.R_reads' HO_5.out).2.2 x52_4 p148 q148
            cases e148
            replace p148 := eq_true p148
            replace q148 := eq_true q148
            have p149 : 0 ≤ (x57_5 : Int) := of_decide_eq_true (by first | (with_reducible assumption) | assumption)
            have q149 : x57_5 < (x5_5.length : Int) := of_decide_eq_true (by first | (with_reducible assumption) | assumption)
            obtain ⟨ad149, e149, hx149_0, hx149_1, hx149_2⟩ := at_T23 (Kd.R_reads' HO_5.out).2.2 x57_5 p149 q149
            obtain rfl : ad148 = ad149 := (by injection e149)
            replace p149 := eq_true p149
            replace q149 := eq_true q149
            refine start_ (n := 16) (S := fun w' => w'.cell? (ad148.add ((x52_4).toNat * 3)) = some (.int .i64 ((rd_T23 x5_5 x52_4).f0)) ∧ w'.cell? ⟨(ad148.add ((x52_4).toNat * 3)).block, (ad148.add ((x52_4).toNat * 3)).off + 1, none⟩ = some (.int .i64 ((rd_T23 x5_5 x52_4).f1)) ∧ w'.cell? ⟨(ad148.add ((x52_4).toNat * 3)).block, (ad148.add ((x52_4).toNat * 3)).off + 2, none⟩ = some (.int .i64 ((rd_T23 x5_5 x52_4).f2)) ∧ w'.cell? (ad148.add ((x57_5).toNat * 3)) = some (.int .i64 ((rd_T23 x5_5 x57_5).f0)) ∧ w'.cell? ⟨(ad148.add ((x57_5).toNat * 3)).block, (ad148.add ((x57_5).toNat * 3)).off + 1, none⟩ = some (.int .i64 ((rd_T23 x5_5 x57_5).f1)) ∧ w'.cell? ⟨(ad148.add ((x57_5).toNat * 3)).block, (ad148.add ((x57_5).toNat * 3)).off + 2, none⟩ = some (.int .i64 ((rd_T23 x5_5 x57_5).f2))) (ds := []) #[false, false, false, false, false, false, false, false, false, false, false, false, false, false, false, false] (by kernel_rfl) rfl rfl ⟨hx148_0, hx148_1, hx148_2, hx149_0, hx149_1, hx149_2⟩ (fun hHeld => ?_); refine with_tabW grapevinelaw06_EpochParts.tab19 grapevinelaw06_EpochParts.bits19 (fun HT_ HW_ => ?_)
            generalize wr.drew = w57 at HO_5 HB hx148_0 hx148_1 hx148_2 hx149_0 hx149_1 hx149_2 hHeld ⊢
            refine pure_ (i := 0) (N := some 61) (v := ?_) (a' := ?_) #[true, false, false, false, false, false, false, false, false, false, false, false, false, false, false, false] rfl rfl (any_of HT_.out (by kernel_rfl)) (fun _ _ _ h => h) (Or.inl ⟨by rfl, ?_⟩) ?_ ?_
            rotate_left
            ·intro w'
             go_simp
             with_reducible rfl
            rotate_left
            ·simp only [Act.put, List.setIfInBounds_toArray, List.set_cons_zero, List.set_cons_succ, i64_w, i32_w]
             rfl
            refine pure_ (i := 1) (N := some 62) (v := ?_) (a' := ?_) #[true, true, false, false, false, false, false, false, false, false, false, false, false, false, false, false] rfl rfl (any_of HT_.out (by kernel_rfl)) (fun _ _ _ h => h) (Or.inl ⟨by rfl, ?_⟩) ?_ ?_
            rotate_left
            ·intro w'
             go_simp
             with_reducible rfl
            rotate_left
            ·simp only [Act.put, List.setIfInBounds_toArray, List.set_cons_zero, List.set_cons_succ, i64_w, i32_w]
             rfl
            refine pure_ (i := 2) (N := some 63) (v := ?_) (a' := ?_) #[true, true, true, false, false, false, false, false, false, false, false, false, false, false, false, false] rfl rfl (any_of HT_.out (by kernel_rfl)) (fun _ _ _ h => h) (Or.inl ⟨by rfl, ?_⟩) ?_ ?_
            rotate_left
            ·intro w'
             go_simp
             with_reducible rfl
            rotate_left
            ·simp only [Act.put, List.setIfInBounds_toArray, List.set_cons_zero, List.set_cons_succ, i64_w, i32_w]
             rfl
            refine pure_ (i := 4) (N := some 65) (v := ?_) (a' := ?_) #[true, true, true, false, true, false, false, false, false, false, false, false, false, false, false, false] rfl rfl (any_of HT_.out (by kernel_rfl)) (fun _ _ _ h => h) (Or.inl ⟨by rfl, ?_⟩) ?_ ?_
            rotate_left
            ·intro w'
             go_simp
             with_reducible rfl
            rotate_left
            ·simp only [Act.put, List.setIfInBounds_toArray, List.set_cons_zero, List.set_cons_succ, i64_w, i32_w]
             rfl
            refine pure_ (i := 5) (N := some 66) (v := ?_) (a' := ?_) #[true, true, true, false, true, true, false, false, false, false, false, false, false, false, false, false] rfl rfl (any_of HT_.out (by kernel_rfl)) (fun _ _ _ h => h) (Or.inl ⟨by rfl, ?_⟩) ?_ ?_
            rotate_left
            ·intro w'
             go_simp
             with_reducible rfl
            rotate_left
            ·simp only [Act.put, List.setIfInBounds_toArray, List.set_cons_zero, List.set_cons_succ, i64_w, i32_w]
             rfl
            refine pure_ (i := 6) (N := some 67) (v := ?_) (a' := ?_) #[true, true, true, false, true, true, true, false, false, false, false, false, false, false, false, false] rfl rfl (any_of HT_.out (by kernel_rfl)) (fun _ _ _ h => h) (Or.inl ⟨by rfl, ?_⟩) ?_ ?_
            rotate_left
            ·intro w'
             go_simp
             with_reducible rfl
            rotate_left
            ·simp only [Act.put, List.setIfInBounds_toArray, List.set_cons_zero, List.set_cons_succ, i64_w, i32_w]
             rfl
            refine pure_ (i := 7) (N := some 68) (v := ?_) (a' := ?_) #[true, true, true, false, true, true, true, true, false, false, false, false, false, false, false, false] rfl rfl (any_of HT_.out (by kernel_rfl)) (fun _ _ _ h => h) (Or.inl ⟨by rfl, ?_⟩) ?_ ?_
            rotate_left
            ·intro w'
             go_simp
             with_reducible rfl
            rotate_left
            ·simp only [Act.put, List.setIfInBounds_toArray, List.set_cons_zero, List.set_cons_succ, i64_w, i32_w]
             rfl
            refine take_ (i := 3) (N := some 64) (v := ?_) (a' := ?_) #[true, true, true, true, true, true, true, true, false, false, false, false, false, false, false, false] rfl rfl (take_ofW HT_.out HW_.out (by kernel_rfl)) (fun _ _ _ h => h) (Or.inl ⟨by rfl, ?_⟩) hHeld ?_ ?_
            rotate_left
            ·rintro w' ⟨s0, s1, s2, s3, s4, s5⟩
             go_simp
             with_reducible rfl
            rotate_left
            ·simp only [Act.put, List.setIfInBounds_toArray, List.set_cons_zero, List.set_cons_succ, i64_w, i32_w]
             rfl
            refine take_ (i := 8) (N := some 69) (v := ?_) (a' := ?_) #[true, true, true, true, true, true, true, true, true, false, false, false, false, false, false, false] rfl rfl (take_ofW HT_.out HW_.out (by kernel_rfl)) (fun _ _ _ h => h) (Or.inl ⟨by rfl, ?_⟩) hHeld ?_ ?_
            rotate_left
            ·rintro w' ⟨s0, s1, s2, s3, s4, s5⟩
             go_simp
             with_reducible rfl
            rotate_left
            ·simp only [Act.put, List.setIfInBounds_toArray, List.set_cons_zero, List.set_cons_succ, i64_w, i32_w]
             rfl
            refine join_ (σ := Nat) 2 #[true, true, true, true, true, true, true, true, true, true, true, true, true, true, false, false] (fun s_ => [(70, .tuple #[.agg #[.int .i64 t150, .int .i64 t151, .int .i64 t152], .int .i64 t153]), (9, .pointer (some ⟨s_, 0, none⟩)), (60, .tuple #[.agg #[.int .i64 t150, .int .i64 t151, .int .i64 t152], .int .i64 t153]), (71, .agg #[.int .i64 t150, .int .i64 t151, .int .i64 t152]), (72, .int .i64 t153)]) (fun s_ w' => (w'.cell? (ad148.add ((x52_4).toNat * 3)) = some (.int .i64 ((rd_T23 x5_5 x52_4).f0)) ∧ w'.cell? ⟨(ad148.add ((x52_4).toNat * 3)).block, (ad148.add ((x52_4).toNat * 3)).off + 1, none⟩ = some (.int .i64 ((rd_T23 x5_5 x52_4).f1)) ∧ w'.cell? ⟨(ad148.add ((x52_4).toNat * 3)).block, (ad148.add ((x52_4).toNat * 3)).off + 2, none⟩ = some (.int .i64 ((rd_T23 x5_5 x52_4).f2)) ∧ w'.cell? (ad148.add ((x57_5).toNat * 3)) = some (.int .i64 ((rd_T23 x5_5 x57_5).f0)) ∧ w'.cell? ⟨(ad148.add ((x57_5).toNat * 3)).block, (ad148.add ((x57_5).toNat * 3)).off + 1, none⟩ = some (.int .i64 ((rd_T23 x5_5 x57_5).f1)) ∧ w'.cell? ⟨(ad148.add ((x57_5).toNat * 3)).block, (ad148.add ((x57_5).toNat * 3)).off + 2, none⟩ = some (.int .i64 ((rd_T23 x5_5 x57_5).f2))) ∧ (Kd.R k23 23 w' w.heap.size (fun k_ => k_ ≠ s_) (.slice (some ad148) x5_5.length co15) x5_5) ∧ (w'.heap[s_]? = some (.cells #[.int .i64 0, .int .i64 0, .int .i64 0] 23 (0, 0))) ∧ (w.heap.size ≤ s_) ∧ (w.heap.size ≤ s_) ∧ (Below w.heap.size w w')) ?_ ?_
            rotate_left
            ·intro hCont
             refine two_ (i := 9) (j := 13) (Ni := some 70) (Nj := some 9) #[true, true, true, true, true, true, true, true, true, true, false, false, false, false, false, false] #[true, true, true, true, true, true, true, true, true, false, false, false, false, true, false, false] rfl rfl rfl rfl (two_of HT_.out (by kernel_rfl)) (by decide) (by decide) (fun K hK => ?_) (fun K hK => ?_)
             ·skip
              refine goes_ Try.func18 (by kernel_rfl) rfl #[.agg #[.int .i64 ((rd_T23 x5_5 x52_4).f0), .int .i64 ((rd_T23 x5_5 x52_4).f1), .int .i64 ((rd_T23 x5_5 x52_4).f2)], .int .i64 ((rd_T23 x5_5 x57_5).f0)] (by rfl) rfl rfl (by (try simp only [List.map_toArray, List.map_cons, List.map_nil]); first | done | rfl | (simp only [List.length_drop, List.length_take]; rfl)) ?_
              with_reducible refine (epoch_Epochs_See.calls ((rd_T23 x5_5 x52_4).f0) ((rd_T23 x5_5 x52_4).f1) ((rd_T23 x5_5 x52_4).f2) ((rd_T23 x5_5 x57_5).f0) t150 t151 t152 t153 _ A29.out).mono ?_
              rintro e w58 ⟨rfl, hb⟩
              have HS0_ := (hb.cell (World.block_lt_of_cell? _ _ (hHeld.1))).trans (hHeld.1)
              have HS1_ := (hb.cell (World.block_lt_of_cell? _ _ (hHeld.2.1))).trans (hHeld.2.1)
              have HS2_ := (hb.cell (World.block_lt_of_cell? _ _ (hHeld.2.2.1))).trans (hHeld.2.2.1)
              have HS3_ := (hb.cell (World.block_lt_of_cell? _ _ (hHeld.2.2.2.1))).trans (hHeld.2.2.2.1)
              have HS4_ := (hb.cell (World.block_lt_of_cell? _ _ (hHeld.2.2.2.2.1))).trans (hHeld.2.2.2.2.1)
              have HS5_ := (hb.cell (World.block_lt_of_cell? _ _ (hHeld.2.2.2.2.2))).trans (hHeld.2.2.2.2.2)
              refine ⟨_, rfl, ?_⟩
              have n0_ := Aside0.mk (Kd.R_below (by (with_reducible repeat (first | apply Kd.R_alloc | apply Kd.R_drewN | apply Kd.R_drew)); exact HO_5.out) hb)
              have n1_ := Aside0.mk (below_step (by repeat (first | (with_reducible first | exact HB.out | apply below_alloc | apply pw_below_drewN | apply below_drew1) | exact HB.out)) hb)
              clear HO_5
              clear HB
              have HO_5 := n0_
              have HB := n1_
              clear n0_ n1_
              (try clear hb)
              (try clear hb2)
              (try clear hk)
              (try clear hi)
              refine hK.out _ _ ⟨HS0_, HS1_, HS2_, HS3_, HS4_, HS5_⟩ (fun hHeld => ?_)
              clear hK K
              refine norm_ (a' := ?_) ?_ ?_
              rotate_left
              ·show Act.put _ (some 70) _ = _
               simp only [Act.put, List.setIfInBounds_toArray, List.set_cons_zero, List.set_cons_succ, i64_w, i32_w]
               rfl
              refine pure_ (i := 10) (N := some 60) (v := ?_) (a' := ?_) #[true, true, true, true, true, true, true, true, true, true, true, false, false, false, false, false] rfl rfl (any_of HT_.out (by kernel_rfl)) (fun _ _ _ h => h) (Or.inl ⟨by rfl, ?_⟩) ?_ ?_
              rotate_left
              ·intro w'
               go_simp
               with_reducible rfl
              rotate_left
              ·simp only [Act.put, List.setIfInBounds_toArray, List.set_cons_zero, List.set_cons_succ, i64_w, i32_w]
               rfl
              refine pure_ (i := 11) (N := some 71) (v := ?_) (a' := ?_) #[true, true, true, true, true, true, true, true, true, true, true, true, false, false, false, false] rfl rfl (any_of HT_.out (by kernel_rfl)) (fun _ _ _ h => h) (Or.inl ⟨by rfl, ?_⟩) ?_ ?_
              rotate_left
              ·intro w'
               go_simp
               with_reducible rfl
              rotate_left
              ·simp only [Act.put, List.setIfInBounds_toArray, List.set_cons_zero, List.set_cons_succ, i64_w, i32_w]
               rfl
              refine pure_ (i := 12) (N := some 72) (v := ?_) (a' := ?_) #[true, true, true, true, true, true, true, true, true, true, true, true, true, false, false, false] rfl rfl (any_of HT_.out (by kernel_rfl)) (fun _ _ _ h => h) (Or.inl ⟨by rfl, ?_⟩) ?_ ?_
              rotate_left
              ·intro w'
               go_simp
               with_reducible rfl
              rotate_left
              ·simp only [Act.put, List.setIfInBounds_toArray, List.set_cons_zero, List.set_cons_succ, i64_w, i32_w]
               rfl
              refine one_ (i := 13) (N := some 9) #[true, true, true, true, true, true, true, true, true, true, true, true, true, true, false, false] rfl rfl (one_of HT_.out (by kernel_rfl)) (by decide) (fun K hK => ?_)
              refine box_step ?hg (N := 9) ?hd (cs := #[.int .i64 0, .int .i64 0, .int .i64 0]) (t := 23) ?hr ?_; (case hd => rfl); (case hg => rfl); (case hr => first | (go_simp; done) | (go_simp; rfl))
              intro gb154 hg w59 hbox hb
              have HS0_ := (hb.cell (World.block_lt_of_cell? _ _ (hHeld.1))).trans (hHeld.1)
              have HS1_ := (hb.cell (World.block_lt_of_cell? _ _ (hHeld.2.1))).trans (hHeld.2.1)
              have HS2_ := (hb.cell (World.block_lt_of_cell? _ _ (hHeld.2.2.1))).trans (hHeld.2.2.1)
              have HS3_ := (hb.cell (World.block_lt_of_cell? _ _ (hHeld.2.2.2.1))).trans (hHeld.2.2.2.1)
              have HS4_ := (hb.cell (World.block_lt_of_cell? _ _ (hHeld.2.2.2.2.1))).trans (hHeld.2.2.2.2.1)
              have HS5_ := (hb.cell (World.block_lt_of_cell? _ _ (hHeld.2.2.2.2.2))).trans (hHeld.2.2.2.2.2)
              have n0_ := Aside0.mk (Kd.R_below (Kd.R_elderB (by (with_reducible repeat (first | apply Kd.R_alloc | apply Kd.R_drewN | apply Kd.R_drew)); exact HO_5.out) gb154 (Nat.le_of_eq hg.symm)) hb)
              have n1_ := Aside0.mk (below_step (by repeat (first | (with_reducible first | exact HB.out | apply below_alloc | apply pw_below_drewN | apply below_drew1) | exact HB.out)) hb)
              have n2_ := Aside0.mk (hbox)
              have n3_ := Aside0.mk ((by rw [hg]; exact (below_size (by repeat (first | (with_reducible first | exact HB.out | apply below_alloc | apply pw_below_drewN | apply below_drew1) | exact HB.out))) : w.heap.size ≤ gb154))
              have n4_ := Aside0.mk ((by rw [hg]; exact (below_size (by repeat (first | (with_reducible first | exact HB.out | apply below_alloc | apply pw_below_drewN | apply below_drew1) | exact HB.out))) : w.heap.size ≤ gb154))
              clear HO_5
              clear HB
              have HO_5 := n0_
              have HB := n1_
              have BK154 := n2_
              have GW154 := n3_
              have GE154 := n4_
              clear n0_ n1_ n2_ n3_ n4_
              clear hb hbox hg
              refine hK.out _ _ ⟨HS0_, HS1_, HS2_, HS3_, HS4_, HS5_⟩ (fun hHeld => ?_)
              clear hK K
              refine norm_ (a' := ?_) ?_ ?_
              rotate_left
              ·show Act.put _ (some 9) _ = _
               simp only [Act.put, List.setIfInBounds_toArray, List.set_cons_zero, List.set_cons_succ, i64_w, i32_w]
               rfl
              exact norm_ (by simp only [putAll, Act.put, List.setIfInBounds_toArray, List.set_cons_zero, List.set_cons_succ]) (hCont (gb154) _ ⟨hHeld, (by (with_reducible repeat (first | apply Kd.R_alloc | apply Kd.R_drewN | apply Kd.R_drew)); exact Kd.R_mono HO_5.out (fun _ hk => hk.2)), (by (with_reducible repeat (first | refine blk_drewN ?_ _ | refine blk_drew ?_ | refine blk_alloc ?_ _)); exact BK154.out), GW154.out, GE154.out, (by repeat (first | (with_reducible first | exact HB.out | apply below_alloc | apply pw_below_drewN | apply below_drew1 | refine below_set ?_ GE154.out) | exact HB.out))⟩)
             ·skip
              refine box_step ?hg (N := 9) ?hd (cs := #[.int .i64 0, .int .i64 0, .int .i64 0]) (t := 23) ?hr ?_; (case hd => rfl); (case hg => rfl); (case hr => first | (go_simp; done) | (go_simp; rfl))
              intro gb154 hg w58 hbox hb
              have HS0_ := (hb.cell (World.block_lt_of_cell? _ _ (hHeld.1))).trans (hHeld.1)
              have HS1_ := (hb.cell (World.block_lt_of_cell? _ _ (hHeld.2.1))).trans (hHeld.2.1)
              have HS2_ := (hb.cell (World.block_lt_of_cell? _ _ (hHeld.2.2.1))).trans (hHeld.2.2.1)
              have HS3_ := (hb.cell (World.block_lt_of_cell? _ _ (hHeld.2.2.2.1))).trans (hHeld.2.2.2.1)
              have HS4_ := (hb.cell (World.block_lt_of_cell? _ _ (hHeld.2.2.2.2.1))).trans (hHeld.2.2.2.2.1)
              have HS5_ := (hb.cell (World.block_lt_of_cell? _ _ (hHeld.2.2.2.2.2))).trans (hHeld.2.2.2.2.2)
              have n0_ := Aside0.mk (Kd.R_below (Kd.R_elderB (by (with_reducible repeat (first | apply Kd.R_alloc | apply Kd.R_drewN | apply Kd.R_drew)); exact HO_5.out) gb154 (Nat.le_of_eq hg.symm)) hb)
              have n1_ := Aside0.mk (below_step (by repeat (first | (with_reducible first | exact HB.out | apply below_alloc | apply pw_below_drewN | apply below_drew1) | exact HB.out)) hb)
              have n2_ := Aside0.mk (hbox)
              have n3_ := Aside0.mk ((by rw [hg]; exact (below_size (by repeat (first | (with_reducible first | exact HB.out | apply below_alloc | apply pw_below_drewN | apply below_drew1) | exact HB.out))) : w.heap.size ≤ gb154))
              have n4_ := Aside0.mk ((by rw [hg]; exact (below_size (by repeat (first | (with_reducible first | exact HB.out | apply below_alloc | apply pw_below_drewN | apply below_drew1) | exact HB.out))) : w.heap.size ≤ gb154))
              clear HO_5
              clear HB
              have HO_5 := n0_
              have HB := n1_
              have BK154 := n2_
              have GW154 := n3_
              have GE154 := n4_
              clear n0_ n1_ n2_ n3_ n4_
              clear hb hbox hg
              refine hK.out _ _ ⟨HS0_, HS1_, HS2_, HS3_, HS4_, HS5_⟩ (fun hHeld => ?_)
              clear hK K
              refine norm_ (a' := ?_) ?_ ?_
              rotate_left
              ·show Act.put _ (some 9) _ = _
               simp only [Act.put, List.setIfInBounds_toArray, List.set_cons_zero, List.set_cons_succ, i64_w, i32_w]
               rfl
              refine one_ (i := 9) (N := some 70) #[true, true, true, true, true, true, true, true, true, true, false, false, false, true, false, false] rfl rfl (one_of HT_.out (by kernel_rfl)) (by decide) (fun K hK => ?_)
              refine goes_ Try.func18 (by kernel_rfl) rfl #[.agg #[.int .i64 ((rd_T23 x5_5 x52_4).f0), .int .i64 ((rd_T23 x5_5 x52_4).f1), .int .i64 ((rd_T23 x5_5 x52_4).f2)], .int .i64 ((rd_T23 x5_5 x57_5).f0)] (by rfl) rfl rfl (by (try simp only [List.map_toArray, List.map_cons, List.map_nil]); first | done | rfl | (simp only [List.length_drop, List.length_take]; rfl)) ?_
              with_reducible refine (epoch_Epochs_See.calls ((rd_T23 x5_5 x52_4).f0) ((rd_T23 x5_5 x52_4).f1) ((rd_T23 x5_5 x52_4).f2) ((rd_T23 x5_5 x57_5).f0) t150 t151 t152 t153 _ A29.out).mono ?_
              rintro e w59 ⟨rfl, hb⟩
              have HS0_ := (hb.cell (World.block_lt_of_cell? _ _ (hHeld.1))).trans (hHeld.1)
              have HS1_ := (hb.cell (World.block_lt_of_cell? _ _ (hHeld.2.1))).trans (hHeld.2.1)
              have HS2_ := (hb.cell (World.block_lt_of_cell? _ _ (hHeld.2.2.1))).trans (hHeld.2.2.1)
              have HS3_ := (hb.cell (World.block_lt_of_cell? _ _ (hHeld.2.2.2.1))).trans (hHeld.2.2.2.1)
              have HS4_ := (hb.cell (World.block_lt_of_cell? _ _ (hHeld.2.2.2.2.1))).trans (hHeld.2.2.2.2.1)
              have HS5_ := (hb.cell (World.block_lt_of_cell? _ _ (hHeld.2.2.2.2.2))).trans (hHeld.2.2.2.2.2)
              refine ⟨_, rfl, ?_⟩
              have n0_ := Aside0.mk (Kd.R_below (by (with_reducible repeat (first | apply Kd.R_alloc | apply Kd.R_drewN | apply Kd.R_drew)); exact HO_5.out) hb)
              have n1_ := Aside0.mk (blk_below (g := gb154) (o := .cells #[.int .i64 0, .int .i64 0, .int .i64 0] 23 (0, 0)) (by (with_reducible repeat (first | refine blk_drewN ?_ _ | refine blk_drew ?_ | refine blk_alloc ?_ _)); exact BK154.out) hb)
              have n2_ := Aside0.mk (below_step (by repeat (first | (with_reducible first | exact HB.out | apply below_alloc | apply pw_below_drewN | apply below_drew1 | refine below_set ?_ GE154.out) | exact HB.out)) hb)
              clear HO_5
              clear BK154
              clear HB
              have HO_5 := n0_
              have BK154 := n1_
              have HB := n2_
              clear n0_ n1_ n2_
              (try clear hb)
              (try clear hb2)
              (try clear hk)
              (try clear hi)
              refine hK.out _ _ ⟨HS0_, HS1_, HS2_, HS3_, HS4_, HS5_⟩ (fun hHeld => ?_)
              clear hK K
              refine norm_ (a' := ?_) ?_ ?_
              rotate_left
              ·show Act.put _ (some 70) _ = _
               simp only [Act.put, List.setIfInBounds_toArray, List.set_cons_zero, List.set_cons_succ, i64_w, i32_w]
               rfl
              refine pure_ (i := 10) (N := some 60) (v := ?_) (a' := ?_) #[true, true, true, true, true, true, true, true, true, true, true, false, false, true, false, false] rfl rfl (any_of HT_.out (by kernel_rfl)) (fun _ _ _ h => h) (Or.inl ⟨by rfl, ?_⟩) ?_ ?_
              rotate_left
              ·intro w'
               go_simp
               with_reducible rfl
              rotate_left
              ·simp only [Act.put, List.setIfInBounds_toArray, List.set_cons_zero, List.set_cons_succ, i64_w, i32_w]
               rfl
              refine pure_ (i := 11) (N := some 71) (v := ?_) (a' := ?_) #[true, true, true, true, true, true, true, true, true, true, true, true, false, true, false, false] rfl rfl (any_of HT_.out (by kernel_rfl)) (fun _ _ _ h => h) (Or.inl ⟨by rfl, ?_⟩) ?_ ?_
              rotate_left
              ·intro w'
               go_simp
               with_reducible rfl
              rotate_left
              ·simp only [Act.put, List.setIfInBounds_toArray, List.set_cons_zero, List.set_cons_succ, i64_w, i32_w]
               rfl
              refine pure_ (i := 12) (N := some 72) (v := ?_) (a' := ?_) #[true, true, true, true, true, true, true, true, true, true, true, true, true, true, false, false] rfl rfl (any_of HT_.out (by kernel_rfl)) (fun _ _ _ h => h) (Or.inl ⟨by rfl, ?_⟩) ?_ ?_
              rotate_left
              ·intro w'
               go_simp
               with_reducible rfl
              rotate_left
              ·simp only [Act.put, List.setIfInBounds_toArray, List.set_cons_zero, List.set_cons_succ, i64_w, i32_w]
               rfl
              exact norm_ (by simp only [putAll, Act.put, List.setIfInBounds_toArray, List.set_cons_zero, List.set_cons_succ]) (hCont (gb154) _ ⟨hHeld, (by (with_reducible repeat (first | apply Kd.R_alloc | apply Kd.R_drewN | apply Kd.R_drew)); exact Kd.R_mono HO_5.out (fun _ hk => hk.2)), (by (with_reducible repeat (first | refine blk_drewN ?_ _ | refine blk_drew ?_ | refine blk_alloc ?_ _)); exact BK154.out), GW154.out, GE154.out, (by repeat (first | (with_reducible first | exact HB.out | apply below_alloc | apply pw_below_drewN | apply below_drew1 | refine below_set ?_ GE154.out) | exact HB.out))⟩)
            rintro gb154 w60 ⟨hS_, h0_, h1_, h2_, h3_, h4_⟩
            have n0_ : Aside0 (Kd.R k23 23 w60 w.heap.size (fun k_ => k_ ≠ gb154) (.slice (some ad148) x5_5.length co15) x5_5) := ⟨h0_⟩
            have n1_ : Aside0 (w60.heap[gb154]? = some (.cells #[.int .i64 0, .int .i64 0, .int .i64 0] 23 (0, 0))) := ⟨h1_⟩
            have n2_ : Aside0 (w.heap.size ≤ gb154) := ⟨h2_⟩
            have n3_ : Aside0 (w.heap.size ≤ gb154) := ⟨h3_⟩
            have n4_ : Aside0 (Below w.heap.size w w60) := ⟨h4_⟩
            clear HO_5
            clear HB
            clear h0_ h1_ h2_ h3_ h4_
            have HO_5 := n0_
            have BK154 := n1_
            have GW154 := n2_
            have GE154 := n3_
            have HB := n4_
            clear n0_ n1_ n2_ n3_ n4_
            have hHeld : w60.cell? (ad148.add ((x52_4).toNat * 3)) = some (.int .i64 ((rd_T23 x5_5 x52_4).f0)) ∧ w60.cell? ⟨(ad148.add ((x52_4).toNat * 3)).block, (ad148.add ((x52_4).toNat * 3)).off + 1, none⟩ = some (.int .i64 ((rd_T23 x5_5 x52_4).f1)) ∧ w60.cell? ⟨(ad148.add ((x52_4).toNat * 3)).block, (ad148.add ((x52_4).toNat * 3)).off + 2, none⟩ = some (.int .i64 ((rd_T23 x5_5 x52_4).f2)) ∧ w60.cell? (ad148.add ((x57_5).toNat * 3)) = some (.int .i64 ((rd_T23 x5_5 x57_5).f0)) ∧ w60.cell? ⟨(ad148.add ((x57_5).toNat * 3)).block, (ad148.add ((x57_5).toNat * 3)).off + 1, none⟩ = some (.int .i64 ((rd_T23 x5_5 x57_5).f1)) ∧ w60.cell? ⟨(ad148.add ((x57_5).toNat * 3)).block, (ad148.add ((x57_5).toNat * 3)).off + 2, none⟩ = some (.int .i64 ((rd_T23 x5_5 x57_5).f2)) := hS_
            refine norm_ (a' := ?_) ?_ ?_
            rotate_left
            ·simp only [putAll, Act.put, List.setIfInBounds_toArray, List.set_cons_zero, List.set_cons_succ]
             rfl
            refine one_ (i := 14) (N := none) #[true, true, true, true, true, true, true, true, true, true, true, true, true, true, true, false] rfl rfl (one_of HT_.out (by kernel_rfl)) (by decide) (fun K hK => ?_)
            have hs61 : w60.cell? ⟨gb154, 0, none⟩ = some (.int .i64 0) := (blk_cell BK154.out 0).trans rfl
            have hfs61 := blk_frozen BK154.out 0
            have hs62 : w60.cell? ⟨gb154, 1, none⟩ = some (.int .i64 0) := (blk_cell BK154.out 1).trans rfl
            have hfs62 := blk_frozen BK154.out 1
            have hs63 : w60.cell? ⟨gb154, 2, none⟩ = some (.int .i64 0) := (blk_cell BK154.out 2).trans rfl
            have hfs63 := blk_frozen BK154.out 2
            refine skip_ (w1 := ?_) (by rfl) rfl ?_ ?_
            rotate_left
            ·go_simp
             rfl
            refine hK.out _ _ ⟨((cell_far (p := ⟨gb154, _, none⟩) (by first | exact Kd.own_blk (Kd.R_away HO_5.out (fun _ hk => hk)) | (simp only [add_block]; exact Kd.own_blk (Kd.R_away HO_5.out (fun _ hk => hk)))) _).trans (((cell_far (p := ⟨gb154, _, none⟩) (by first | exact Kd.own_blk (Kd.R_away HO_5.out (fun _ hk => hk)) | (simp only [add_block]; exact Kd.own_blk (Kd.R_away HO_5.out (fun _ hk => hk)))) _).trans (((cell_far (p := ⟨gb154, _, none⟩) (by first | exact Kd.own_blk (Kd.R_away HO_5.out (fun _ hk => hk)) | (simp only [add_block]; exact Kd.own_blk (Kd.R_away HO_5.out (fun _ hk => hk)))) _).trans (hHeld.1)))))), ((cell_far (p := ⟨gb154, _, none⟩) (by first | exact Kd.own_blk (Kd.R_away HO_5.out (fun _ hk => hk)) | (simp only [add_block]; exact Kd.own_blk (Kd.R_away HO_5.out (fun _ hk => hk)))) _).trans (((cell_far (p := ⟨gb154, _, none⟩) (by first | exact Kd.own_blk (Kd.R_away HO_5.out (fun _ hk => hk)) | (simp only [add_block]; exact Kd.own_blk (Kd.R_away HO_5.out (fun _ hk => hk)))) _).trans (((cell_far (p := ⟨gb154, _, none⟩) (by first | exact Kd.own_blk (Kd.R_away HO_5.out (fun _ hk => hk)) | (simp only [add_block]; exact Kd.own_blk (Kd.R_away HO_5.out (fun _ hk => hk)))) _).trans (hHeld.2.1)))))), ((cell_far (p := ⟨gb154, _, none⟩) (by first | exact Kd.own_blk (Kd.R_away HO_5.out (fun _ hk => hk)) | (simp only [add_block]; exact Kd.own_blk (Kd.R_away HO_5.out (fun _ hk => hk)))) _).trans (((cell_far (p := ⟨gb154, _, none⟩) (by first | exact Kd.own_blk (Kd.R_away HO_5.out (fun _ hk => hk)) | (simp only [add_block]; exact Kd.own_blk (Kd.R_away HO_5.out (fun _ hk => hk)))) _).trans (((cell_far (p := ⟨gb154, _, none⟩) (by first | exact Kd.own_blk (Kd.R_away HO_5.out (fun _ hk => hk)) | (simp only [add_block]; exact Kd.own_blk (Kd.R_away HO_5.out (fun _ hk => hk)))) _).trans (hHeld.2.2.1)))))), ((cell_far (p := ⟨gb154, _, none⟩) (by first | exact Kd.own_blk (Kd.R_away HO_5.out (fun _ hk => hk)) | (simp only [add_block]; exact Kd.own_blk (Kd.R_away HO_5.out (fun _ hk => hk)))) _).trans (((cell_far (p := ⟨gb154, _, none⟩) (by first | exact Kd.own_blk (Kd.R_away HO_5.out (fun _ hk => hk)) | (simp only [add_block]; exact Kd.own_blk (Kd.R_away HO_5.out (fun _ hk => hk)))) _).trans (((cell_far (p := ⟨gb154, _, none⟩) (by first | exact Kd.own_blk (Kd.R_away HO_5.out (fun _ hk => hk)) | (simp only [add_block]; exact Kd.own_blk (Kd.R_away HO_5.out (fun _ hk => hk)))) _).trans (hHeld.2.2.2.1)))))), ((cell_far (p := ⟨gb154, _, none⟩) (by first | exact Kd.own_blk (Kd.R_away HO_5.out (fun _ hk => hk)) | (simp only [add_block]; exact Kd.own_blk (Kd.R_away HO_5.out (fun _ hk => hk)))) _).trans (((cell_far (p := ⟨gb154, _, none⟩) (by first | exact Kd.own_blk (Kd.R_away HO_5.out (fun _ hk => hk)) | (simp only [add_block]; exact Kd.own_blk (Kd.R_away HO_5.out (fun _ hk => hk)))) _).trans (((cell_far (p := ⟨gb154, _, none⟩) (by first | exact Kd.own_blk (Kd.R_away HO_5.out (fun _ hk => hk)) | (simp only [add_block]; exact Kd.own_blk (Kd.R_away HO_5.out (fun _ hk => hk)))) _).trans (hHeld.2.2.2.2.1)))))), ((cell_far (p := ⟨gb154, _, none⟩) (by first | exact Kd.own_blk (Kd.R_away HO_5.out (fun _ hk => hk)) | (simp only [add_block]; exact Kd.own_blk (Kd.R_away HO_5.out (fun _ hk => hk)))) _).trans (((cell_far (p := ⟨gb154, _, none⟩) (by first | exact Kd.own_blk (Kd.R_away HO_5.out (fun _ hk => hk)) | (simp only [add_block]; exact Kd.own_blk (Kd.R_away HO_5.out (fun _ hk => hk)))) _).trans (((cell_far (p := ⟨gb154, _, none⟩) (by first | exact Kd.own_blk (Kd.R_away HO_5.out (fun _ hk => hk)) | (simp only [add_block]; exact Kd.own_blk (Kd.R_away HO_5.out (fun _ hk => hk)))) _).trans (hHeld.2.2.2.2.2))))))⟩ (fun hHeld => ?_)
            clear hK K
            refine pure_ (i := 15) (N := some 10) (v := ?_) (a' := ?_) #[true, true, true, true, true, true, true, true, true, true, true, true, true, true, true, true] rfl rfl (any_of HT_.out (by kernel_rfl)) (fun _ _ _ h => h) (Or.inl ⟨by rfl, ?_⟩) ?_ ?_
            rotate_left
            ·intro w'
             go_simp
             with_reducible rfl
            rotate_left
            ·simp only [Act.put, List.setIfInBounds_toArray, List.set_cons_zero, List.set_cons_succ, i64_w, i32_w]
             rfl
            refine done_ (done_of HT_.out (by kernel_rfl)) ?_
            have n0_ : Aside0 (Kd.R k23 23 (((w60.setCell ⟨gb154, 0, none⟩ (.int .i64 t150)).setCell ⟨gb154, 1, none⟩ (.int .i64 t151)).setCell ⟨gb154, 2, none⟩ (.int .i64 t152)) w.heap.size (fun k_ => k_ ≠ gb154) (.slice (some ad148) x5_5.length co15) x5_5) := ⟨by (with_reducible repeat (first | apply Kd.R_alloc | apply Kd.R_drewN | apply Kd.R_drew)); exact Kd.R_mono (Kd.R_far (p := ⟨gb154, 2, none⟩) (Kd.R_far (p := ⟨gb154, 1, none⟩) (Kd.R_far (p := ⟨gb154, 0, none⟩) (Kd.R_mono HO_5.out (fun k_ hk => (⟨hk, hk⟩ : _ ∧ k_ ≠ gb154))) (fun _ hk => hk.2) (.int .i64 t150)) (fun _ hk => hk.2) (.int .i64 t151)) (fun _ hk => hk.2) (.int .i64 t152)) (fun _ hk => hk.1)⟩
            have n1_ : Aside0 ((((w60.setCell ⟨gb154, 0, none⟩ (.int .i64 t150)).setCell ⟨gb154, 1, none⟩ (.int .i64 t151)).setCell ⟨gb154, 2, none⟩ (.int .i64 t152)).heap[gb154]? = some (.cells #[.int .i64 t150, .int .i64 t151, .int .i64 t152] 23 (0, 0))) := ⟨by (with_reducible repeat (first | refine blk_drewN ?_ _ | refine blk_drew ?_ | refine blk_alloc ?_ _)); refine blk_put (cs := #[.int .i64 t150, .int .i64 t151, .int .i64 0]) ?_ 2 _ rfl; (with_reducible repeat (first | refine blk_drewN ?_ _ | refine blk_drew ?_ | refine blk_alloc ?_ _)); refine blk_put (cs := #[.int .i64 t150, .int .i64 0, .int .i64 0]) ?_ 1 _ rfl; (with_reducible repeat (first | refine blk_drewN ?_ _ | refine blk_drew ?_ | refine blk_alloc ?_ _)); refine blk_put (cs := #[.int .i64 0, .int .i64 0, .int .i64 0]) ?_ 0 _ rfl; (with_reducible repeat (first | refine blk_drewN ?_ _ | refine blk_drew ?_ | refine blk_alloc ?_ _)); exact BK154.out⟩
            have n2_ : Aside0 (Below w.heap.size w (((w60.setCell ⟨gb154, 0, none⟩ (.int .i64 t150)).setCell ⟨gb154, 1, none⟩ (.int .i64 t151)).setCell ⟨gb154, 2, none⟩ (.int .i64 t152))) := ⟨by repeat (first | (with_reducible first | exact HB.out | apply below_alloc | apply pw_below_drewN | apply below_drew1 | refine below_set ?_ GE154.out) | exact HB.out)⟩
            (try clear HO_5)
            (try clear BK154)
            (try clear HB)
            generalize (((w60.setCell ⟨gb154, 0, none⟩ (.int .i64 t150)).setCell ⟨gb154, 1, none⟩ (.int .i64 t151)).setCell ⟨gb154, 2, none⟩ (.int .i64 t152)) = w64 at n0_ n1_ n2_ ⊢
            have HO_5 := n0_
            have BK154 := n1_
            have HB := n2_
            clear n0_ n1_ n2_
            have hcz65_0 : w64.cell? ⟨gb154, 0, none⟩ = some (.int .i64 t150) := (blk_cell BK154.out 0).trans rfl
            have hcz65_1 : w64.cell? ⟨gb154, 1, none⟩ = some (.int .i64 t151) := (blk_cell BK154.out 1).trans rfl
            have hcz65_2 : w64.cell? ⟨gb154, 2, none⟩ = some (.int .i64 t152) := (blk_cell BK154.out 2).trans rfl
            have hfz65_0 := blk_frozen BK154.out 0
            have hfz65_1 := blk_frozen BK154.out 1
            have hfz65_2 := blk_frozen BK154.out 2
            have p31 : 0 ≤ (x52_4 : Int) := of_decide_eq_true (by first | (with_reducible assumption) | assumption)
            have q31 : (x52_4 : Int) < ((x5_5.length : Int) : Int) := of_decide_eq_true (by first | (with_reducible assumption) | assumption)
            obtain ⟨go31, co31, eo31, gb31, gl31, cl31, HG31⟩ := Kd.R_form HO_5.out (by omega)
            (first | cases eo31 | (injection eo31 with ea_ en_ ec_; (first | subst ea_ | (injection ea_ with ea_; subst ea_)); subst ec_; clear en_))
            have GB31 := Aside0.mk gb31
            have GG31 := Aside0.mk HG31
            clear gb31 gl31 HG31
            (first | simp only [add_plain] at hx148_0 | skip)
            (first | simp only [add_plain] at hx148_1 | skip)
            (first | simp only [add_plain] at hx148_2 | skip)
            (first | simp only [add_plain] at hx149_0 | skip)
            (first | simp only [add_plain] at hx149_1 | skip)
            (first | simp only [add_plain] at hx149_2 | skip)
            obtain ⟨ce31, hcl31, hM31, hcc31, hfr31⟩ := Kd.R_elem HO_5.out z23 (x52_4 : Int) p31 q31
            obtain rfl := k23_openM hM31
            have hx31_0 : w64.cell? ⟨go31, (x52_4 : Int).toNat * 3, none⟩ = some (.int .i64 ((rd_T23 x5_5 x52_4).f0)) := hcc31 0 _ rfl
            have hx31_1 : w64.cell? ⟨go31, (x52_4 : Int).toNat * 3 + 1, none⟩ = some (.int .i64 ((rd_T23 x5_5 x52_4).f1)) := hcc31 1 _ rfl
            have hx31_2 : w64.cell? ⟨go31, (x52_4 : Int).toNat * 3 + 2, none⟩ = some (.int .i64 ((rd_T23 x5_5 x52_4).f2)) := hcc31 2 _ rfl
            have hf31_0 : w64.frozen? ⟨go31, (x52_4 : Int).toNat * 3, none⟩ = false := hfr31 0
            have hf31_1 : w64.frozen? ⟨go31, (x52_4 : Int).toNat * 3 + 1, none⟩ = false := hfr31 1
            have hf31_2 : w64.frozen? ⟨go31, (x52_4 : Int).toNat * 3 + 2, none⟩ = false := hfr31 2
            clear hcl31 hcc31 hfr31 hM31
            replace p31 := eq_true p31
            replace q31 := eq_true q31
            have HX66 := Aside0.mk (show Kd.R k23 23 w64 w.heap.size (fun k_ => k_ ≠ gb154) (.slice (some ⟨go31, 0, none⟩) x5_5.length co15) x5_5 from (by (with_reducible repeat (first | apply Kd.R_alloc | apply Kd.R_drewN | apply Kd.R_drew)); exact HO_5.out))
            obtain ⟨ce66, hcl66, hM66, hcc66, hfr66⟩ := Kd.R_elem HX66.out z23 (x52_4 : Int) (of_decide_eq_true (by first | (with_reducible assumption) | assumption)) (by have h_ : (x52_4 : Int) < ((x5_5.length : Int) : Int) := of_decide_eq_true (by first | (with_reducible assumption) | assumption); first | exact h_ | (have e_ := (Kd.R_reads' HO_5.out).1; omega) | simpa using h_)
            obtain rfl := k23_openM hM66
            have HP66 := Kd.R_seg HX66.out (x52_4 : Int) (of_decide_eq_true (by first | (with_reducible assumption) | assumption)) (by have h_ : (x52_4 : Int) < ((x5_5.length : Int) : Int) := of_decide_eq_true (by first | (with_reducible assumption) | assumption); first | exact h_ | (have e_ := (Kd.R_reads' HO_5.out).1; omega) | simpa using h_) (seg := [.int .i64 t150, .int .i64 t151, .int .i64 t152]) (j := 0) hcl66 hcc66 (show 3 ≤ 3 from by decide) (x' := (⟨t150, t151, t152⟩ : S23)) (k23_mkM _ _ _ (⟨t150, t151, t152⟩ : S23) ) (fun _ hk => hk)
            have hx66_0 := hcc66 0 _ rfl
            (try simp only [show (k23).sz = 3 from rfl, Nat.mul_one, Nat.add_zero] at hx66_0)
            have hf66_0 := hfr66 0
            (try simp only [show (k23).sz = 3 from rfl, Nat.mul_one, Nat.add_zero] at hf66_0)
            have hx66_1 := hcc66 1 _ rfl
            (try simp only [show (k23).sz = 3 from rfl, Nat.mul_one, Nat.add_zero] at hx66_1)
            have hf66_1 := hfr66 1
            (try simp only [show (k23).sz = 3 from rfl, Nat.mul_one, Nat.add_zero] at hf66_1)
            have hx66_2 := hcc66 2 _ rfl
            (try simp only [show (k23).sz = 3 from rfl, Nat.mul_one, Nat.add_zero] at hx66_2)
            have hf66_2 := hfr66 2
            (try simp only [show (k23).sz = 3 from rfl, Nat.mul_one, Nat.add_zero] at hf66_2)
            clear hcl66 hcc66 hfr66 hM66
            try go_wp2_with (first | ((with_reducible refine gate_store (t := 23) (p := 78) rfl ?_); refine store_event (t := 23) (p := 78) (v := ?vo_w67) (w1 := (((w64.setCell ⟨go31, (x52_4 : Int).toNat * 3, none⟩ (.int .i64 t150)).setCell ⟨go31, (x52_4 : Int).toNat * 3 + 1, none⟩ (.int .i64 t151)).setCell ⟨go31, (x52_4 : Int).toNat * 3 + 2, none⟩ (.int .i64 t152))) ?hg ?ho ?hn ?hr ?_; (case ho => rfl); (case hg => rfl); (case hn => rfl); (case hr => first | (go_simp; done) | (go_simp; rfl)); intro w67 hw; have hg : w64.grownBy w67 (some go31) := (by rw [hw]; exact HP66.2); have hp_ : Kd.R k23 23 w67 w.heap.size (fun k_ => k_ ≠ gb154) (.slice (some ⟨go31, 0, none⟩) x5_5.length co15) y155 := (by rw [hw, Ny155.out]; exact HP66.1); clear HP66; have n0_ := Aside0.mk (hp_); have n1_ := Aside0.mk (blk_grown (g := gb154) (o := .cells #[.int .i64 t150, .int .i64 t151, .int .i64 t152] 23 (0, 0)) (by (with_reducible repeat (first | refine blk_drewN ?_ _ | refine blk_drew ?_ | refine blk_alloc ?_ _)); exact BK154.out) hg (Kd.R_away HO_5.out (fun _ hk => hk))); have n2_ := Aside0.mk ((by rw [hw]; exact below_set (below_set (below_set (HB.out) GB31.out) GB31.out) GB31.out : Below w.heap.size w w67)); clear HO_5; clear BK154; clear HB; have HO_5 := n0_; have BK154 := n1_; have HB := n2_; clear n0_ n1_ n2_; clear hg hw hp_))
            have n0_ := Aside0.mk (Kd.R_drew HO_5.out)
            have n1_ := Aside0.mk (blk_drew BK154.out)
            have n2_ := Aside0.mk (below_drew1 HB.out)
            clear HO_5
            clear BK154
            clear HB
            have HO_5 := n0_
            have BK154 := n1_
            have HB := n2_
            clear n0_ n1_ n2_
            have p156 : 0 ≤ (x52_4 : Int) := of_decide_eq_true (by first | (with_reducible assumption) | assumption)
            have q156 : x52_4 < (y155.length : Int) := (by have h_ : (x52_4 : Int) < ((x5_5.length : Int) : Int) := of_decide_eq_true (by first | (with_reducible assumption) | assumption); first | (have e_ := (Kd.R_reads' HO_5.out).1; omega) | simpa only [Ny155.out, List.length_set] using h_)
            have ql156 : ((x52_4 : Int) < ((x5_5.length : Int) : Int)) = True := eq_true (of_decide_eq_true (by first | (with_reducible assumption) | assumption))
            obtain ⟨ad156, e156, hx156_0, hx156_1, hx156_2⟩ := at_T23 (Kd.R_reads' HO_5.out).2.2 x52_4 p156 q156
            obtain rfl : (⟨go31, 0, none⟩ : Addr) = ad156 := (by injection e156)
            (first | simp only [add_plain] at hx156_0 | simp only [add_at] at hx156_0 | simp only [Addr.add, Nat.zero_add] at hx156_0 | skip)
            (first | simp only [add_plain] at hx156_1 | simp only [add_at] at hx156_1 | simp only [Addr.add, Nat.zero_add] at hx156_1 | skip)
            (first | simp only [add_plain] at hx156_2 | simp only [add_at] at hx156_2 | simp only [Addr.add, Nat.zero_add] at hx156_2 | skip)
            replace p156 := eq_true p156
            replace q156 := eq_true q156
            have p157 : 0 ≤ (x57_5 : Int) := of_decide_eq_true (by first | (with_reducible assumption) | assumption)
            have q157 : x57_5 < (y155.length : Int) := (by have h_ : (x57_5 : Int) < ((x5_5.length : Int) : Int) := of_decide_eq_true (by first | (with_reducible assumption) | assumption); first | (have e_ := (Kd.R_reads' HO_5.out).1; omega) | simpa only [Ny155.out, List.length_set] using h_)
            have ql157 : ((x57_5 : Int) < ((x5_5.length : Int) : Int)) = True := eq_true (of_decide_eq_true (by first | (with_reducible assumption) | assumption))
            obtain ⟨ad157, e157, hx157_0, hx157_1, hx157_2⟩ := at_T23 (Kd.R_reads' HO_5.out).2.2 x57_5 p157 q157
            obtain rfl : (⟨go31, 0, none⟩ : Addr) = ad157 := (by injection e157)
            (first | simp only [add_plain] at hx157_0 | simp only [add_at] at hx157_0 | simp only [Addr.add, Nat.zero_add] at hx157_0 | skip)
            (first | simp only [add_plain] at hx157_1 | simp only [add_at] at hx157_1 | simp only [Addr.add, Nat.zero_add] at hx157_1 | skip)
            (first | simp only [add_plain] at hx157_2 | simp only [add_at] at hx157_2 | simp only [Addr.add, Nat.zero_add] at hx157_2 | skip)
            replace p157 := eq_true p157
            replace q157 := eq_true q157
            refine start_ (n := 15) (S := fun w' => w'.cell? ⟨go31, (x52_4).toNat * 3, none⟩ = some (.int .i64 ((rd_T23 y155 x52_4).f0)) ∧ w'.cell? ⟨go31, (x52_4).toNat * 3 + 1, none⟩ = some (.int .i64 ((rd_T23 y155 x52_4).f1)) ∧ w'.cell? ⟨go31, (x52_4).toNat * 3 + 2, none⟩ = some (.int .i64 ((rd_T23 y155 x52_4).f2)) ∧ w'.cell? ⟨go31, (x57_5).toNat * 3, none⟩ = some (.int .i64 ((rd_T23 y155 x57_5).f0)) ∧ w'.cell? ⟨go31, (x57_5).toNat * 3 + 1, none⟩ = some (.int .i64 ((rd_T23 y155 x57_5).f1)) ∧ w'.cell? ⟨go31, (x57_5).toNat * 3 + 2, none⟩ = some (.int .i64 ((rd_T23 y155 x57_5).f2))) (ds := []) #[false, false, false, false, false, false, false, false, false, false, false, false, false, false, false] (by kernel_rfl) rfl rfl ⟨hx156_0, hx156_1, hx156_2, hx157_0, hx157_1, hx157_2⟩ (fun hHeld => ?_); refine with_tabW grapevinelaw06_EpochParts.tab23 grapevinelaw06_EpochParts.bits23 (fun HT_ HW_ => ?_)
            generalize w67.drew = w68 at HO_5 BK154 HB hx156_0 hx156_1 hx156_2 hx157_0 hx157_1 hx157_2 hHeld ⊢
            refine pure_ (i := 0) (N := some 79) (v := ?_) (a' := ?_) #[true, false, false, false, false, false, false, false, false, false, false, false, false, false, false] rfl rfl (any_of HT_.out (by kernel_rfl)) (fun _ _ _ h => h) (Or.inl ⟨by rfl, ?_⟩) ?_ ?_
            rotate_left
            ·intro w'
             go_simp
             with_reducible rfl
            rotate_left
            ·simp only [Act.put, List.setIfInBounds_toArray, List.set_cons_zero, List.set_cons_succ, i64_w, i32_w]
             rfl
            refine pure_ (i := 1) (N := some 80) (v := ?_) (a' := ?_) #[true, true, false, false, false, false, false, false, false, false, false, false, false, false, false] rfl rfl (any_of HT_.out (by kernel_rfl)) (fun _ _ _ h => h) (Or.inl ⟨by rfl, ?_⟩) ?_ ?_
            rotate_left
            ·intro w'
             go_simp
             with_reducible rfl
            rotate_left
            ·simp only [Act.put, List.setIfInBounds_toArray, List.set_cons_zero, List.set_cons_succ, i64_w, i32_w]
             rfl
            refine pure_ (i := 2) (N := some 81) (v := ?_) (a' := ?_) #[true, true, true, false, false, false, false, false, false, false, false, false, false, false, false] rfl rfl (any_of HT_.out (by kernel_rfl)) (fun _ _ _ h => h) (Or.inl ⟨by rfl, ?_⟩) ?_ ?_
            rotate_left
            ·intro w'
             go_simp
             with_reducible rfl
            rotate_left
            ·simp only [Act.put, List.setIfInBounds_toArray, List.set_cons_zero, List.set_cons_succ, i64_w, i32_w]
             rfl
            refine pure_ (i := 3) (N := some 82) (v := ?_) (a' := ?_) #[true, true, true, true, false, false, false, false, false, false, false, false, false, false, false] rfl rfl (any_of HT_.out (by kernel_rfl)) (fun _ _ _ h => h) (Or.inl ⟨by rfl, ?_⟩) ?_ ?_
            rotate_left
            ·intro w'
             go_simp
             with_reducible rfl
            rotate_left
            ·simp only [Act.put, List.setIfInBounds_toArray, List.set_cons_zero, List.set_cons_succ, i64_w, i32_w]
             rfl
            refine pure_ (i := 4) (N := some 83) (v := ?_) (a' := ?_) #[true, true, true, true, true, false, false, false, false, false, false, false, false, false, false] rfl rfl (any_of HT_.out (by kernel_rfl)) (fun _ _ _ h => h) (Or.inl ⟨by rfl, ?_⟩) ?_ ?_
            rotate_left
            ·intro w'
             go_simp
             with_reducible rfl
            rotate_left
            ·simp only [Act.put, List.setIfInBounds_toArray, List.set_cons_zero, List.set_cons_succ, i64_w, i32_w]
             rfl
            refine pure_ (i := 5) (N := some 84) (v := ?_) (a' := ?_) #[true, true, true, true, true, true, false, false, false, false, false, false, false, false, false] rfl rfl (any_of HT_.out (by kernel_rfl)) (fun _ _ _ h => h) (Or.inl ⟨by rfl, ?_⟩) ?_ ?_
            rotate_left
            ·intro w'
             go_simp
             with_reducible rfl
            rotate_left
            ·simp only [Act.put, List.setIfInBounds_toArray, List.set_cons_zero, List.set_cons_succ, i64_w, i32_w]
             rfl
            refine pure_ (i := 6) (N := some 85) (v := ?_) (a' := ?_) #[true, true, true, true, true, true, true, false, false, false, false, false, false, false, false] rfl rfl (any_of HT_.out (by kernel_rfl)) (fun _ _ _ h => h) (Or.inl ⟨by rfl, ?_⟩) ?_ ?_
            rotate_left
            ·intro w'
             go_simp
             with_reducible rfl
            rotate_left
            ·simp only [Act.put, List.setIfInBounds_toArray, List.set_cons_zero, List.set_cons_succ, i64_w, i32_w]
             rfl
            refine pure_ (i := 7) (N := some 86) (v := ?_) (a' := ?_) #[true, true, true, true, true, true, true, true, false, false, false, false, false, false, false] rfl rfl (any_of HT_.out (by kernel_rfl)) (fun _ _ _ h => h) (Or.inl ⟨by rfl, ?_⟩) ?_ ?_
            rotate_left
            ·intro w'
             go_simp
             with_reducible rfl
            rotate_left
            ·simp only [Act.put, List.setIfInBounds_toArray, List.set_cons_zero, List.set_cons_succ, i64_w, i32_w]
             rfl
            refine pure_ (i := 9) (N := some 88) (v := ?_) (a' := ?_) #[true, true, true, true, true, true, true, true, false, true, false, false, false, false, false] rfl rfl (any_of HT_.out (by kernel_rfl)) (fun _ _ _ h => h) (Or.inl ⟨by rfl, ?_⟩) ?_ ?_
            rotate_left
            ·intro w'
             go_simp
             with_reducible rfl
            rotate_left
            ·simp only [Act.put, List.setIfInBounds_toArray, List.set_cons_zero, List.set_cons_succ, i64_w, i32_w]
             rfl
            refine pure_ (i := 10) (N := some 89) (v := ?_) (a' := ?_) #[true, true, true, true, true, true, true, true, false, true, true, false, false, false, false] rfl rfl (any_of HT_.out (by kernel_rfl)) (fun _ _ _ h => h) (Or.inl ⟨by rfl, ?_⟩) ?_ ?_
            rotate_left
            ·intro w'
             go_simp
             with_reducible rfl
            rotate_left
            ·simp only [Act.put, List.setIfInBounds_toArray, List.set_cons_zero, List.set_cons_succ, i64_w, i32_w]
             rfl
            refine pure_ (i := 11) (N := some 90) (v := ?_) (a' := ?_) #[true, true, true, true, true, true, true, true, false, true, true, true, false, false, false] rfl rfl (any_of HT_.out (by kernel_rfl)) (fun _ _ _ h => h) (Or.inl ⟨by rfl, ?_⟩) ?_ ?_
            rotate_left
            ·intro w'
             go_simp
             with_reducible rfl
            rotate_left
            ·simp only [Act.put, List.setIfInBounds_toArray, List.set_cons_zero, List.set_cons_succ, i64_w, i32_w]
             rfl
            refine pure_ (i := 12) (N := some 91) (v := ?_) (a' := ?_) #[true, true, true, true, true, true, true, true, false, true, true, true, true, false, false] rfl rfl (any_of HT_.out (by kernel_rfl)) (fun _ _ _ h => h) (Or.inl ⟨by rfl, ?_⟩) ?_ ?_
            rotate_left
            ·intro w'
             go_simp
             with_reducible rfl
            rotate_left
            ·simp only [Act.put, List.setIfInBounds_toArray, List.set_cons_zero, List.set_cons_succ, i64_w, i32_w]
             rfl
            refine take_ (i := 8) (N := some 87) (v := ?_) (a' := ?_) #[true, true, true, true, true, true, true, true, true, true, true, true, true, false, false] rfl rfl (take_ofW HT_.out HW_.out (by kernel_rfl)) (fun _ _ _ h => h) (Or.inl ⟨by rfl, ?_⟩) hHeld ?_ ?_
            rotate_left
            ·rintro w' ⟨s0, s1, s2, s3, s4, s5⟩
             go_simp
             with_reducible rfl
            rotate_left
            ·simp only [Act.put, List.setIfInBounds_toArray, List.set_cons_zero, List.set_cons_succ, i64_w, i32_w]
             rfl
            refine take_ (i := 13) (N := some 92) (v := ?_) (a' := ?_) #[true, true, true, true, true, true, true, true, true, true, true, true, true, true, false] rfl rfl (take_ofW HT_.out HW_.out (by kernel_rfl)) (fun _ _ _ h => h) (Or.inl ⟨by rfl, ?_⟩) hHeld ?_ ?_
            rotate_left
            ·rintro w' ⟨s0, s1, s2, s3, s4, s5⟩
             go_simp
             with_reducible rfl
            rotate_left
            ·simp only [Act.put, List.setIfInBounds_toArray, List.set_cons_zero, List.set_cons_succ, i64_w, i32_w]
             rfl
            refine one_ (i := 14) (N := some 93) #[true, true, true, true, true, true, true, true, true, true, true, true, true, true, true] rfl rfl (one_of HT_.out (by kernel_rfl)) (by decide) (fun K hK => ?_)
            refine goes_ Try.func17 (by kernel_rfl) rfl #[.int .i64 (wrap64 (x52_4 + 1)), .int .i64 (wrap64 (x57_5 + 1)), .int .i64 ((rd_T23 y155 x52_4).f2), .int .i64 ((rd_T23 y155 x57_5).f2)] (by rfl) rfl rfl (by (try simp only [List.map_toArray, List.map_cons, List.map_nil]); first | done | rfl | (simp only [List.length_drop, List.length_take]; rfl)) ?_
            with_reducible refine (epoch_Yields.calls (wrap64 (x52_4 + 1)) (wrap64 (x57_5 + 1)) ((rd_T23 y155 x52_4).f2) ((rd_T23 y155 x57_5).f2) true _ A32.out).mono ?_
            rintro e w' ⟨rfl, ⟨nd, rfl⟩⟩
            refine ⟨_, rfl, ?_⟩
            refine hK.out _ _ ⟨hHeld.1, hHeld.2.1, hHeld.2.2.1, hHeld.2.2.2.1, hHeld.2.2.2.2.1, hHeld.2.2.2.2.2⟩ (fun hHeld => ?_)
            clear hK K
            refine norm_ (a' := ?_) ?_ ?_
            rotate_left
            ·show Act.put _ (some 93) _ = _
             simp only [Act.put, List.setIfInBounds_toArray, List.set_cons_zero, List.set_cons_succ, i64_w, i32_w]
             rfl
            refine done_ (done_of HT_.out (by kernel_rfl)) ?_
            have p159 : 0 ≤ (x52_4 : Int) := of_decide_eq_true (by first | (with_reducible assumption) | assumption)
            have q159 : x52_4 < (y155.length : Int) := (by have h_ : (x52_4 : Int) < ((x5_5.length : Int) : Int) := of_decide_eq_true (by first | (with_reducible assumption) | assumption); first | (have e_ := (Kd.R_reads' HO_5.out).1; omega) | simpa only [Ny155.out, List.length_set] using h_)
            have ql159 : ((x52_4 : Int) < ((x5_5.length : Int) : Int)) = True := eq_true (of_decide_eq_true (by first | (with_reducible assumption) | assumption))
            obtain ⟨ad159, e159, hx159_0, hx159_1, hx159_2⟩ := at_T23 (Kd.R_reads' HO_5.out).2.2 x52_4 p159 q159
            obtain rfl : (⟨go31, 0, none⟩ : Addr) = ad159 := (by injection e159)
            (first | simp only [add_plain] at hx159_0 | simp only [add_at] at hx159_0 | simp only [Addr.add, Nat.zero_add] at hx159_0 | skip)
            (first | simp only [add_plain] at hx159_1 | simp only [add_at] at hx159_1 | simp only [Addr.add, Nat.zero_add] at hx159_1 | skip)
            (first | simp only [add_plain] at hx159_2 | simp only [add_at] at hx159_2 | simp only [Addr.add, Nat.zero_add] at hx159_2 | skip)
            replace p159 := eq_true p159
            replace q159 := eq_true q159
            try go_wp2_with (first | ((with_reducible refine gate_callee (f := 21) rfl ?_); refine goesL_ (some 99) rfl rfl Try.func21 (by kernel_rfl) rfl #[.agg #[.int .i64 ((rd_T23 y155 x52_4).f0), .int .i64 ((rd_T23 y155 x52_4).f1), .int .i64 ((rd_T23 y155 x52_4).f2)]] rfl (by (try simp only [List.map_toArray, List.map_cons, List.map_nil]); first | done | rfl | (simp only [List.length_drop, List.length_take]; rfl)) ?_; (with_reducible refine (epoch_Epochs_Bump.calls ((rd_T23 y155 x52_4).f0) ((rd_T23 y155 x52_4).f1) ((rd_T23 y155 x52_4).f2) t160 t161 t162 t163 _ A34.out).mono ?_); rintro e w69 ⟨rfl, hb⟩; refine ⟨_, rfl, ?_⟩; have n0_ := Aside0.mk (Kd.R_below (by (with_reducible repeat (first | apply Kd.R_alloc | apply Kd.R_drewN | apply Kd.R_drew)); exact HO_5.out) hb); have n1_ := Aside0.mk (blk_below (g := gb154) (o := .cells #[.int .i64 t150, .int .i64 t151, .int .i64 t152] 23 (0, 0)) (by (with_reducible repeat (first | refine blk_drewN ?_ _ | refine blk_drew ?_ | refine blk_alloc ?_ _)); exact BK154.out) hb); have n2_ := Aside0.mk (below_step (by repeat (first | (with_reducible first | exact HB.out | apply below_alloc | apply pw_below_drewN | apply below_drew1 | refine below_set ?_ GE154.out) | exact HB.out)) hb); clear HO_5; clear BK154; clear HB; have HO_5 := n0_; have BK154 := n1_; have HB := n2_; clear n0_ n1_ n2_; (try clear hb); (try clear hb2); (try clear hk); (try clear hi)) | ((with_reducible refine gate_dst (N := 11) rfl ?_); refine box_event ?hg (N := 11) ?hd (cs := #[.int .i64 0, .int .i64 0, .int .i64 0]) (t := 23) ?hr ?_; (case hd => rfl); (case hg => rfl); (case hr => first | (go_simp; done) | (go_simp; rfl)); intro gb164 hg w70 hbox hb; have n0_ := Aside0.mk (Kd.R_below (Kd.R_elderB (by (with_reducible repeat (first | apply Kd.R_alloc | apply Kd.R_drewN | apply Kd.R_drew)); exact HO_5.out) gb164 (Nat.le_of_eq hg.symm)) hb); have n1_ := Aside0.mk (blk_below (g := gb154) (o := .cells #[.int .i64 t150, .int .i64 t151, .int .i64 t152] 23 (0, 0)) (by (with_reducible repeat (first | refine blk_drewN ?_ _ | refine blk_drew ?_ | refine blk_alloc ?_ _)); exact BK154.out) hb); have n2_ := Aside0.mk (below_step (by repeat (first | (with_reducible first | exact HB.out | apply below_alloc | apply pw_below_drewN | apply below_drew1 | refine below_set ?_ GE154.out) | exact HB.out)) hb); have n3_ := Aside0.mk (hbox); have n4_ := Aside0.mk ((by rw [hg]; exact (below_size (by repeat (first | (with_reducible first | exact HB.out | apply below_alloc | apply pw_below_drewN | apply below_drew1 | refine below_set ?_ GE154.out) | exact HB.out))) : w.heap.size ≤ gb164)); have n5_ := Aside0.mk ((by rw [hg]; exact (below_size (by repeat (first | (with_reducible first | exact HB.out | apply below_alloc | apply pw_below_drewN | apply below_drew1 | refine below_set ?_ GE154.out) | exact HB.out))) : w.heap.size ≤ gb164)); have n6_ := Aside0.mk ((by rw [hg]; exact Nat.ne_of_lt (blk_lt (g := gb154) (o := .cells #[.int .i64 t150, .int .i64 t151, .int .i64 t152] 23 (0, 0)) (by (with_reducible repeat (first | refine blk_drewN ?_ _ | refine blk_drew ?_ | refine blk_alloc ?_ _)); exact BK154.out)) : gb154 ≠ gb164)); have n7_ := Aside0.mk ((by rw [hg]; exact Nat.ne_of_gt (blk_lt (g := gb154) (o := .cells #[.int .i64 t150, .int .i64 t151, .int .i64 t152] 23 (0, 0)) (by (with_reducible repeat (first | refine blk_drewN ?_ _ | refine blk_drew ?_ | refine blk_alloc ?_ _)); exact BK154.out)) : gb164 ≠ gb154)); clear HO_5; clear BK154; clear HB; have HO_5 := n0_; have BK154 := n1_; have HB := n2_; have BK164 := n3_; have GW164 := n4_; have GE164 := n5_; have NB154_164 := n6_; have NB164_154 := n7_; clear n0_ n1_ n2_ n3_ n4_ n5_ n6_ n7_; clear hb hbox hg; have hnb71 := NB164_154.out; have hnc71 := NB154_164.out; have hcz72_0 : w70.cell? ⟨gb164, 0, none⟩ = some (.int .i64 0) := (blk_cell BK164.out 0).trans rfl; have hcz72_1 : w70.cell? ⟨gb164, 1, none⟩ = some (.int .i64 0) := (blk_cell BK164.out 1).trans rfl; have hcz72_2 : w70.cell? ⟨gb164, 2, none⟩ = some (.int .i64 0) := (blk_cell BK164.out 2).trans rfl; have hfz72_0 := blk_frozen BK164.out 0; have hfz72_1 := blk_frozen BK164.out 1; have hfz72_2 := blk_frozen BK164.out 2))
            go_ret
            exact ⟨by first | rfl | (simp [errW_none, errW_some] <;> rfl) | (simp [*, errW_none, errW_some] <;> rfl), by repeat (first | (with_reducible first | exact HB.out | apply below_alloc | apply pw_below_drewN | apply below_drew1 | refine below_set ?_ GE154.out | refine below_set ?_ GE164.out) | exact HB.out)⟩
           rw [if_pos c35] at H
           have c35b0 : (t163 == 0) = true := beq_iff_eq.mpr c35
           have c35b1 : (t163 != 0) = false := bne_eq_false_iff_eq.mpr c35
           clear c35
           obtain ⟨y165, hy165⟩ : ∃ y_ : List (S23), y_ = (y155.set (x52_4 : Int).toNat (⟨t160, t161, t162⟩ : S23)) := ⟨_, rfl⟩
           replace H : (grapevinelaw06_EpochParts.l3 k5 a0 a1 y165 x52_4 (wrap64 (a0 * a0)) x48_3 (x5_3.length : Int) x52_4 (x5_4.length : Int) (wrap64 (x57_5 + 1))) = some r := by first | (rw [hy165]; with_reducible exact H) | (have H2_ := (Option.bind_some _ _).symm.trans H; rw [hy165]; with_reducible exact H2_) | (have H2_ := (Option.bind_some _ _).symm.trans H; with_reducible exact H2_) | with_reducible exact H | (rw [hy165]; exact H) | exact H
           have Ny165 := Aside0.mk hy165
           clear hy165
           have H' := Aside0.mk H
           clear H
           try go_wp2
           have n0_ := Aside0.mk (Kd.R_drew HO_5.out)
           have n1_ := Aside0.mk (below_drew1 HB.out)
           clear HO_5
           clear HB
           have HO_5 := n0_
           have HB := n1_
           clear n0_ n1_
           have p148 : 0 ≤ (x52_4 : Int) := of_decide_eq_true (by first | (with_reducible assumption) | assumption)
           have q148 : x52_4 < (x5_5.length : Int) := of_decide_eq_true (by first | (with_reducible assumption) | assumption)
           obtain ⟨ad148, e148, hx148_0, hx148_1, hx148_2⟩ := at_T23 (Kd.R_reads' HO_5.out).2.2 x52_4 p148 q148
           cases e148
           replace p148 := eq_true p148
           replace q148 := eq_true q148
           have p149 : 0 ≤ (x57_5 : Int) := of_decide_eq_true (by first | (with_reducible assumption) | assumption)
           have q149 : x57_5 < (x5_5.length : Int) := of_decide_eq_true (by first | (with_reducible assumption) | assumption)
           obtain ⟨ad149, e149, hx149_0, hx149_1, hx149_2⟩ := at_T23 (Kd.R_reads' HO_5.out).2.2 x57_5 p149 q149
           obtain rfl : ad148 = ad149 := (by injection e149)
           replace p149 := eq_true p149
           replace q149 := eq_true q149
           refine start_ (n := 16) (S := fun w' => w'.cell? (ad148.add ((x52_4).toNat * 3)) = some (.int .i64 ((rd_T23 x5_5 x52_4).f0)) ∧ w'.cell? ⟨(ad148.add ((x52_4).toNat * 3)).block, (ad148.add ((x52_4).toNat * 3)).off + 1, none⟩ = some (.int .i64 ((rd_T23 x5_5 x52_4).f1)) ∧ w'.cell? ⟨(ad148.add ((x52_4).toNat * 3)).block, (ad148.add ((x52_4).toNat * 3)).off + 2, none⟩ = some (.int .i64 ((rd_T23 x5_5 x52_4).f2)) ∧ w'.cell? (ad148.add ((x57_5).toNat * 3)) = some (.int .i64 ((rd_T23 x5_5 x57_5).f0)) ∧ w'.cell? ⟨(ad148.add ((x57_5).toNat * 3)).block, (ad148.add ((x57_5).toNat * 3)).off + 1, none⟩ = some (.int .i64 ((rd_T23 x5_5 x57_5).f1)) ∧ w'.cell? ⟨(ad148.add ((x57_5).toNat * 3)).block, (ad148.add ((x57_5).toNat * 3)).off + 2, none⟩ = some (.int .i64 ((rd_T23 x5_5 x57_5).f2))) (ds := []) #[false, false, false, false, false, false, false, false, false, false, false, false, false, false, false, false] (by kernel_rfl) rfl rfl ⟨hx148_0, hx148_1, hx148_2, hx149_0, hx149_1, hx149_2⟩ (fun hHeld => ?_); refine with_tabW grapevinelaw06_EpochParts.tab19 grapevinelaw06_EpochParts.bits19 (fun HT_ HW_ => ?_)
           generalize wr.drew = w37 at HO_5 HB hx148_0 hx148_1 hx148_2 hx149_0 hx149_1 hx149_2 hHeld ⊢
           refine pure_ (i := 0) (N := some 61) (v := ?_) (a' := ?_) #[true, false, false, false, false, false, false, false, false, false, false, false, false, false, false, false] rfl rfl (any_of HT_.out (by kernel_rfl)) (fun _ _ _ h => h) (Or.inl ⟨by rfl, ?_⟩) ?_ ?_
           rotate_left
           ·intro w'
            go_simp
            with_reducible rfl
           rotate_left
           ·simp only [Act.put, List.setIfInBounds_toArray, List.set_cons_zero, List.set_cons_succ, i64_w, i32_w]
            rfl
           refine pure_ (i := 1) (N := some 62) (v := ?_) (a' := ?_) #[true, true, false, false, false, false, false, false, false, false, false, false, false, false, false, false] rfl rfl (any_of HT_.out (by kernel_rfl)) (fun _ _ _ h => h) (Or.inl ⟨by rfl, ?_⟩) ?_ ?_
           rotate_left
           ·intro w'
            go_simp
            with_reducible rfl
           rotate_left
           ·simp only [Act.put, List.setIfInBounds_toArray, List.set_cons_zero, List.set_cons_succ, i64_w, i32_w]
            rfl
           refine pure_ (i := 2) (N := some 63) (v := ?_) (a' := ?_) #[true, true, true, false, false, false, false, false, false, false, false, false, false, false, false, false] rfl rfl (any_of HT_.out (by kernel_rfl)) (fun _ _ _ h => h) (Or.inl ⟨by rfl, ?_⟩) ?_ ?_
           rotate_left
           ·intro w'
            go_simp
            with_reducible rfl
           rotate_left
           ·simp only [Act.put, List.setIfInBounds_toArray, List.set_cons_zero, List.set_cons_succ, i64_w, i32_w]
            rfl
           refine pure_ (i := 4) (N := some 65) (v := ?_) (a' := ?_) #[true, true, true, false, true, false, false, false, false, false, false, false, false, false, false, false] rfl rfl (any_of HT_.out (by kernel_rfl)) (fun _ _ _ h => h) (Or.inl ⟨by rfl, ?_⟩) ?_ ?_
           rotate_left
           ·intro w'
            go_simp
            with_reducible rfl
           rotate_left
           ·simp only [Act.put, List.setIfInBounds_toArray, List.set_cons_zero, List.set_cons_succ, i64_w, i32_w]
            rfl
           refine pure_ (i := 5) (N := some 66) (v := ?_) (a' := ?_) #[true, true, true, false, true, true, false, false, false, false, false, false, false, false, false, false] rfl rfl (any_of HT_.out (by kernel_rfl)) (fun _ _ _ h => h) (Or.inl ⟨by rfl, ?_⟩) ?_ ?_
           rotate_left
           ·intro w'
            go_simp
            with_reducible rfl
           rotate_left
           ·simp only [Act.put, List.setIfInBounds_toArray, List.set_cons_zero, List.set_cons_succ, i64_w, i32_w]
            rfl
           refine pure_ (i := 6) (N := some 67) (v := ?_) (a' := ?_) #[true, true, true, false, true, true, true, false, false, false, false, false, false, false, false, false] rfl rfl (any_of HT_.out (by kernel_rfl)) (fun _ _ _ h => h) (Or.inl ⟨by rfl, ?_⟩) ?_ ?_
           rotate_left
           ·intro w'
            go_simp
            with_reducible rfl
           rotate_left
           ·simp only [Act.put, List.setIfInBounds_toArray, List.set_cons_zero, List.set_cons_succ, i64_w, i32_w]
            rfl
           refine pure_ (i := 7) (N := some 68) (v := ?_) (a' := ?_) #[true, true, true, false, true, true, true, true, false, false, false, false, false, false, false, false] rfl rfl (any_of HT_.out (by kernel_rfl)) (fun _ _ _ h => h) (Or.inl ⟨by rfl, ?_⟩) ?_ ?_
           rotate_left
           ·intro w'
            go_simp
            with_reducible rfl
           rotate_left
           ·simp only [Act.put, List.setIfInBounds_toArray, List.set_cons_zero, List.set_cons_succ, i64_w, i32_w]
            rfl
           refine take_ (i := 3) (N := some 64) (v := ?_) (a' := ?_) #[true, true, true, true, true, true, true, true, false, false, false, false, false, false, false, false] rfl rfl (take_ofW HT_.out HW_.out (by kernel_rfl)) (fun _ _ _ h => h) (Or.inl ⟨by rfl, ?_⟩) hHeld ?_ ?_
           rotate_left
           ·rintro w' ⟨s0, s1, s2, s3, s4, s5⟩
            go_simp
            with_reducible rfl
           rotate_left
           ·simp only [Act.put, List.setIfInBounds_toArray, List.set_cons_zero, List.set_cons_succ, i64_w, i32_w]
            rfl
           refine take_ (i := 8) (N := some 69) (v := ?_) (a' := ?_) #[true, true, true, true, true, true, true, true, true, false, false, false, false, false, false, false] rfl rfl (take_ofW HT_.out HW_.out (by kernel_rfl)) (fun _ _ _ h => h) (Or.inl ⟨by rfl, ?_⟩) hHeld ?_ ?_
           rotate_left
           ·rintro w' ⟨s0, s1, s2, s3, s4, s5⟩
            go_simp
            with_reducible rfl
           rotate_left
           ·simp only [Act.put, List.setIfInBounds_toArray, List.set_cons_zero, List.set_cons_succ, i64_w, i32_w]
            rfl
           refine join_ (σ := Nat) 2 #[true, true, true, true, true, true, true, true, true, true, true, true, true, true, false, false] (fun s_ => [(70, .tuple #[.agg #[.int .i64 t150, .int .i64 t151, .int .i64 t152], .int .i64 t153]), (9, .pointer (some ⟨s_, 0, none⟩)), (60, .tuple #[.agg #[.int .i64 t150, .int .i64 t151, .int .i64 t152], .int .i64 t153]), (71, .agg #[.int .i64 t150, .int .i64 t151, .int .i64 t152]), (72, .int .i64 t153)]) (fun s_ w' => (w'.cell? (ad148.add ((x52_4).toNat * 3)) = some (.int .i64 ((rd_T23 x5_5 x52_4).f0)) ∧ w'.cell? ⟨(ad148.add ((x52_4).toNat * 3)).block, (ad148.add ((x52_4).toNat * 3)).off + 1, none⟩ = some (.int .i64 ((rd_T23 x5_5 x52_4).f1)) ∧ w'.cell? ⟨(ad148.add ((x52_4).toNat * 3)).block, (ad148.add ((x52_4).toNat * 3)).off + 2, none⟩ = some (.int .i64 ((rd_T23 x5_5 x52_4).f2)) ∧ w'.cell? (ad148.add ((x57_5).toNat * 3)) = some (.int .i64 ((rd_T23 x5_5 x57_5).f0)) ∧ w'.cell? ⟨(ad148.add ((x57_5).toNat * 3)).block, (ad148.add ((x57_5).toNat * 3)).off + 1, none⟩ = some (.int .i64 ((rd_T23 x5_5 x57_5).f1)) ∧ w'.cell? ⟨(ad148.add ((x57_5).toNat * 3)).block, (ad148.add ((x57_5).toNat * 3)).off + 2, none⟩ = some (.int .i64 ((rd_T23 x5_5 x57_5).f2))) ∧ (Kd.R k23 23 w' w.heap.size (fun k_ => k_ ≠ s_) (.slice (some ad148) x5_5.length co15) x5_5) ∧ (w'.heap[s_]? = some (.cells #[.int .i64 0, .int .i64 0, .int .i64 0] 23 (0, 0))) ∧ (w.heap.size ≤ s_) ∧ (w.heap.size ≤ s_) ∧ (Below w.heap.size w w')) ?_ ?_
           rotate_left
           ·intro hCont
            refine two_ (i := 9) (j := 13) (Ni := some 70) (Nj := some 9) #[true, true, true, true, true, true, true, true, true, true, false, false, false, false, false, false] #[true, true, true, true, true, true, true, true, true, false, false, false, false, true, false, false] rfl rfl rfl rfl (two_of HT_.out (by kernel_rfl)) (by decide) (by decide) (fun K hK => ?_) (fun K hK => ?_)
            ·skip
             refine goes_ Try.func18 (by kernel_rfl) rfl #[.agg #[.int .i64 ((rd_T23 x5_5 x52_4).f0), .int .i64 ((rd_T23 x5_5 x52_4).f1), .int .i64 ((rd_T23 x5_5 x52_4).f2)], .int .i64 ((rd_T23 x5_5 x57_5).f0)] (by rfl) rfl rfl (by (try simp only [List.map_toArray, List.map_cons, List.map_nil]); first | done | rfl | (simp only [List.length_drop, List.length_take]; rfl)) ?_
             with_reducible refine (epoch_Epochs_See.calls ((rd_T23 x5_5 x52_4).f0) ((rd_T23 x5_5 x52_4).f1) ((rd_T23 x5_5 x52_4).f2) ((rd_T23 x5_5 x57_5).f0) t150 t151 t152 t153 _ A29.out).mono ?_
             rintro e w38 ⟨rfl, hb⟩
             have HS0_ := (hb.cell (World.block_lt_of_cell? _ _ (hHeld.1))).trans (hHeld.1)
             have HS1_ := (hb.cell (World.block_lt_of_cell? _ _ (hHeld.2.1))).trans (hHeld.2.1)
             have HS2_ := (hb.cell (World.block_lt_of_cell? _ _ (hHeld.2.2.1))).trans (hHeld.2.2.1)
             have HS3_ := (hb.cell (World.block_lt_of_cell? _ _ (hHeld.2.2.2.1))).trans (hHeld.2.2.2.1)
             have HS4_ := (hb.cell (World.block_lt_of_cell? _ _ (hHeld.2.2.2.2.1))).trans (hHeld.2.2.2.2.1)
             have HS5_ := (hb.cell (World.block_lt_of_cell? _ _ (hHeld.2.2.2.2.2))).trans (hHeld.2.2.2.2.2)
             refine ⟨_, rfl, ?_⟩
             have n0_ := Aside0.mk (Kd.R_below (by (with_reducible repeat (first | apply Kd.R_alloc | apply Kd.R_drewN | apply Kd.R_drew)); exact HO_5.out) hb)
             have n1_ := Aside0.mk (below_step (by repeat (first | (with_reducible first | exact HB.out | apply below_alloc | apply pw_below_drewN | apply below_drew1) | exact HB.out)) hb)
             clear HO_5
             clear HB
             have HO_5 := n0_
             have HB := n1_
             clear n0_ n1_
             (try clear hb)
             (try clear hb2)
             (try clear hk)
             (try clear hi)
             refine hK.out _ _ ⟨HS0_, HS1_, HS2_, HS3_, HS4_, HS5_⟩ (fun hHeld => ?_)
             clear hK K
             refine norm_ (a' := ?_) ?_ ?_
             rotate_left
             ·show Act.put _ (some 70) _ = _
              simp only [Act.put, List.setIfInBounds_toArray, List.set_cons_zero, List.set_cons_succ, i64_w, i32_w]
              rfl
             refine pure_ (i := 10) (N := some 60) (v := ?_) (a' := ?_) #[true, true, true, true, true, true, true, true, true, true, true, false, false, false, false, false] rfl rfl (any_of HT_.out (by kernel_rfl)) (fun _ _ _ h => h) (Or.inl ⟨by rfl, ?_⟩) ?_ ?_
             rotate_left
             ·intro w'
              go_simp
              with_reducible rfl
             rotate_left
             ·simp only [Act.put, List.setIfInBounds_toArray, List.set_cons_zero, List.set_cons_succ, i64_w, i32_w]
              rfl
             refine pure_ (i := 11) (N := some 71) (v := ?_) (a' := ?_) #[true, true, true, true, true, true, true, true, true, true, true, true, false, false, false, false] rfl rfl (any_of HT_.out (by kernel_rfl)) (fun _ _ _ h => h) (Or.inl ⟨by rfl, ?_⟩) ?_ ?_
             rotate_left
             ·intro w'
              go_simp
              with_reducible rfl
             rotate_left
             ·simp only [Act.put, List.setIfInBounds_toArray, List.set_cons_zero, List.set_cons_succ, i64_w, i32_w]
              rfl
             refine pure_ (i := 12) (N := some 72) (v := ?_) (a' := ?_) #[true, true, true, true, true, true, true, true, true, true, true, true, true, false, false, false] rfl rfl (any_of HT_.out (by kernel_rfl)) (fun _ _ _ h => h) (Or.inl ⟨by rfl, ?_⟩) ?_ ?_
             rotate_left
             ·intro w'
              go_simp
              with_reducible rfl
             rotate_left
             ·simp only [Act.put, List.setIfInBounds_toArray, List.set_cons_zero, List.set_cons_succ, i64_w, i32_w]
              rfl
             refine one_ (i := 13) (N := some 9) #[true, true, true, true, true, true, true, true, true, true, true, true, true, true, false, false] rfl rfl (one_of HT_.out (by kernel_rfl)) (by decide) (fun K hK => ?_)
             refine box_step ?hg (N := 9) ?hd (cs := #[.int .i64 0, .int .i64 0, .int .i64 0]) (t := 23) ?hr ?_; (case hd => rfl); (case hg => rfl); (case hr => first | (go_simp; done) | (go_simp; rfl))
             intro gb154 hg w39 hbox hb
             have HS0_ := (hb.cell (World.block_lt_of_cell? _ _ (hHeld.1))).trans (hHeld.1)
             have HS1_ := (hb.cell (World.block_lt_of_cell? _ _ (hHeld.2.1))).trans (hHeld.2.1)
             have HS2_ := (hb.cell (World.block_lt_of_cell? _ _ (hHeld.2.2.1))).trans (hHeld.2.2.1)
             have HS3_ := (hb.cell (World.block_lt_of_cell? _ _ (hHeld.2.2.2.1))).trans (hHeld.2.2.2.1)
             have HS4_ := (hb.cell (World.block_lt_of_cell? _ _ (hHeld.2.2.2.2.1))).trans (hHeld.2.2.2.2.1)
             have HS5_ := (hb.cell (World.block_lt_of_cell? _ _ (hHeld.2.2.2.2.2))).trans (hHeld.2.2.2.2.2)
             have n0_ := Aside0.mk (Kd.R_below (Kd.R_elderB (by (with_reducible repeat (first | apply Kd.R_alloc | apply Kd.R_drewN | apply Kd.R_drew)); exact HO_5.out) gb154 (Nat.le_of_eq hg.symm)) hb)
             have n1_ := Aside0.mk (below_step (by repeat (first | (with_reducible first | exact HB.out | apply below_alloc | apply pw_below_drewN | apply below_drew1) | exact HB.out)) hb)
             have n2_ := Aside0.mk (hbox)
             have n3_ := Aside0.mk ((by rw [hg]; exact (below_size (by repeat (first | (with_reducible first | exact HB.out | apply below_alloc | apply pw_below_drewN | apply below_drew1) | exact HB.out))) : w.heap.size ≤ gb154))
             have n4_ := Aside0.mk ((by rw [hg]; exact (below_size (by repeat (first | (with_reducible first | exact HB.out | apply below_alloc | apply pw_below_drewN | apply below_drew1) | exact HB.out))) : w.heap.size ≤ gb154))
             clear HO_5
             clear HB
             have HO_5 := n0_
             have HB := n1_
             have BK154 := n2_
             have GW154 := n3_
             have GE154 := n4_
             clear n0_ n1_ n2_ n3_ n4_
             clear hb hbox hg
             refine hK.out _ _ ⟨HS0_, HS1_, HS2_, HS3_, HS4_, HS5_⟩ (fun hHeld => ?_)
             clear hK K
             refine norm_ (a' := ?_) ?_ ?_
             rotate_left
             ·show Act.put _ (some 9) _ = _
              simp only [Act.put, List.setIfInBounds_toArray, List.set_cons_zero, List.set_cons_succ, i64_w, i32_w]
              rfl
             exact norm_ (by simp only [putAll, Act.put, List.setIfInBounds_toArray, List.set_cons_zero, List.set_cons_succ]) (hCont (gb154) _ ⟨hHeld, (by (with_reducible repeat (first | apply Kd.R_alloc | apply Kd.R_drewN | apply Kd.R_drew)); exact Kd.R_mono HO_5.out (fun _ hk => hk.2)), (by (with_reducible repeat (first | refine blk_drewN ?_ _ | refine blk_drew ?_ | refine blk_alloc ?_ _)); exact BK154.out), GW154.out, GE154.out, (by repeat (first | (with_reducible first | exact HB.out | apply below_alloc | apply pw_below_drewN | apply below_drew1 | refine below_set ?_ GE154.out) | exact HB.out))⟩)
            ·skip
             refine box_step ?hg (N := 9) ?hd (cs := #[.int .i64 0, .int .i64 0, .int .i64 0]) (t := 23) ?hr ?_; (case hd => rfl); (case hg => rfl); (case hr => first | (go_simp; done) | (go_simp; rfl))
             intro gb154 hg w38 hbox hb
             have HS0_ := (hb.cell (World.block_lt_of_cell? _ _ (hHeld.1))).trans (hHeld.1)
             have HS1_ := (hb.cell (World.block_lt_of_cell? _ _ (hHeld.2.1))).trans (hHeld.2.1)
             have HS2_ := (hb.cell (World.block_lt_of_cell? _ _ (hHeld.2.2.1))).trans (hHeld.2.2.1)
             have HS3_ := (hb.cell (World.block_lt_of_cell? _ _ (hHeld.2.2.2.1))).trans (hHeld.2.2.2.1)
             have HS4_ := (hb.cell (World.block_lt_of_cell? _ _ (hHeld.2.2.2.2.1))).trans (hHeld.2.2.2.2.1)
             have HS5_ := (hb.cell (World.block_lt_of_cell? _ _ (hHeld.2.2.2.2.2))).trans (hHeld.2.2.2.2.2)
             have n0_ := Aside0.mk (Kd.R_below (Kd.R_elderB (by (with_reducible repeat (first | apply Kd.R_alloc | apply Kd.R_drewN | apply Kd.R_drew)); exact HO_5.out) gb154 (Nat.le_of_eq hg.symm)) hb)
             have n1_ := Aside0.mk (below_step (by repeat (first | (with_reducible first | exact HB.out | apply below_alloc | apply pw_below_drewN | apply below_drew1) | exact HB.out)) hb)
             have n2_ := Aside0.mk (hbox)
             have n3_ := Aside0.mk ((by rw [hg]; exact (below_size (by repeat (first | (with_reducible first | exact HB.out | apply below_alloc | apply pw_below_drewN | apply below_drew1) | exact HB.out))) : w.heap.size ≤ gb154))
             have n4_ := Aside0.mk ((by rw [hg]; exact (below_size (by repeat (first | (with_reducible first | exact HB.out | apply below_alloc | apply pw_below_drewN | apply below_drew1) | exact HB.out))) : w.heap.size ≤ gb154))
             clear HO_5
             clear HB
             have HO_5 := n0_
             have HB := n1_
             have BK154 := n2_
             have GW154 := n3_
             have GE154 := n4_
             clear n0_ n1_ n2_ n3_ n4_
             clear hb hbox hg
             refine hK.out _ _ ⟨HS0_, HS1_, HS2_, HS3_, HS4_, HS5_⟩ (fun hHeld => ?_)
             clear hK K
             refine norm_ (a' := ?_) ?_ ?_
             rotate_left
             ·show Act.put _ (some 9) _ = _
              simp only [Act.put, List.setIfInBounds_toArray, List.set_cons_zero, List.set_cons_succ, i64_w, i32_w]
              rfl
             refine one_ (i := 9) (N := some 70) #[true, true, true, true, true, true, true, true, true, true, false, false, false, true, false, false] rfl rfl (one_of HT_.out (by kernel_rfl)) (by decide) (fun K hK => ?_)
             refine goes_ Try.func18 (by kernel_rfl) rfl #[.agg #[.int .i64 ((rd_T23 x5_5 x52_4).f0), .int .i64 ((rd_T23 x5_5 x52_4).f1), .int .i64 ((rd_T23 x5_5 x52_4).f2)], .int .i64 ((rd_T23 x5_5 x57_5).f0)] (by rfl) rfl rfl (by (try simp only [List.map_toArray, List.map_cons, List.map_nil]); first | done | rfl | (simp only [List.length_drop, List.length_take]; rfl)) ?_
             with_reducible refine (epoch_Epochs_See.calls ((rd_T23 x5_5 x52_4).f0) ((rd_T23 x5_5 x52_4).f1) ((rd_T23 x5_5 x52_4).f2) ((rd_T23 x5_5 x57_5).f0) t150 t151 t152 t153 _ A29.out).mono ?_
             rintro e w39 ⟨rfl, hb⟩
             have HS0_ := (hb.cell (World.block_lt_of_cell? _ _ (hHeld.1))).trans (hHeld.1)
             have HS1_ := (hb.cell (World.block_lt_of_cell? _ _ (hHeld.2.1))).trans (hHeld.2.1)
             have HS2_ := (hb.cell (World.block_lt_of_cell? _ _ (hHeld.2.2.1))).trans (hHeld.2.2.1)
             have HS3_ := (hb.cell (World.block_lt_of_cell? _ _ (hHeld.2.2.2.1))).trans (hHeld.2.2.2.1)
             have HS4_ := (hb.cell (World.block_lt_of_cell? _ _ (hHeld.2.2.2.2.1))).trans (hHeld.2.2.2.2.1)
             have HS5_ := (hb.cell (World.block_lt_of_cell? _ _ (hHeld.2.2.2.2.2))).trans (hHeld.2.2.2.2.2)
             refine ⟨_, rfl, ?_⟩
             have n0_ := Aside0.mk (Kd.R_below (by (with_reducible repeat (first | apply Kd.R_alloc | apply Kd.R_drewN | apply Kd.R_drew)); exact HO_5.out) hb)
             have n1_ := Aside0.mk (blk_below (g := gb154) (o := .cells #[.int .i64 0, .int .i64 0, .int .i64 0] 23 (0, 0)) (by (with_reducible repeat (first | refine blk_drewN ?_ _ | refine blk_drew ?_ | refine blk_alloc ?_ _)); exact BK154.out) hb)
             have n2_ := Aside0.mk (below_step (by repeat (first | (with_reducible first | exact HB.out | apply below_alloc | apply pw_below_drewN | apply below_drew1 | refine below_set ?_ GE154.out) | exact HB.out)) hb)
             clear HO_5
             clear BK154
             clear HB
             have HO_5 := n0_
             have BK154 := n1_
             have HB := n2_
             clear n0_ n1_ n2_
             (try clear hb)
             (try clear hb2)
             (try clear hk)
             (try clear hi)
             refine hK.out _ _ ⟨HS0_, HS1_, HS2_, HS3_, HS4_, HS5_⟩ (fun hHeld => ?_)
             clear hK K
             refine norm_ (a' := ?_) ?_ ?_
             rotate_left
             ·show Act.put _ (some 70) _ = _
              simp only [Act.put, List.setIfInBounds_toArray, List.set_cons_zero, List.set_cons_succ, i64_w, i32_w]
              rfl
             refine pure_ (i := 10) (N := some 60) (v := ?_) (a' := ?_) #[true, true, true, true, true, true, true, true, true, true, true, false, false, true, false, false] rfl rfl (any_of HT_.out (by kernel_rfl)) (fun _ _ _ h => h) (Or.inl ⟨by rfl, ?_⟩) ?_ ?_
             rotate_left
             ·intro w'
              go_simp
              with_reducible rfl
             rotate_left
             ·simp only [Act.put, List.setIfInBounds_toArray, List.set_cons_zero, List.set_cons_succ, i64_w, i32_w]
              rfl
             refine pure_ (i := 11) (N := some 71) (v := ?_) (a' := ?_) #[true, true, true, true, true, true, true, true, true, true, true, true, false, true, false, false] rfl rfl (any_of HT_.out (by kernel_rfl)) (fun _ _ _ h => h) (Or.inl ⟨by rfl, ?_⟩) ?_ ?_
             rotate_left
             ·intro w'
              go_simp
              with_reducible rfl
             rotate_left
             ·simp only [Act.put, List.setIfInBounds_toArray, List.set_cons_zero, List.set_cons_succ, i64_w, i32_w]
              rfl
             refine pure_ (i := 12) (N := some 72) (v := ?_) (a' := ?_) #[true, true, true, true, true, true, true, true, true, true, true, true, true, true, false, false] rfl rfl (any_of HT_.out (by kernel_rfl)) (fun _ _ _ h => h) (Or.inl ⟨by rfl, ?_⟩) ?_ ?_
             rotate_left
             ·intro w'
              go_simp
              with_reducible rfl
             rotate_left
             ·simp only [Act.put, List.setIfInBounds_toArray, List.set_cons_zero, List.set_cons_succ, i64_w, i32_w]
              rfl
             exact norm_ (by simp only [putAll, Act.put, List.setIfInBounds_toArray, List.set_cons_zero, List.set_cons_succ]) (hCont (gb154) _ ⟨hHeld, (by (with_reducible repeat (first | apply Kd.R_alloc | apply Kd.R_drewN | apply Kd.R_drew)); exact Kd.R_mono HO_5.out (fun _ hk => hk.2)), (by (with_reducible repeat (first | refine blk_drewN ?_ _ | refine blk_drew ?_ | refine blk_alloc ?_ _)); exact BK154.out), GW154.out, GE154.out, (by repeat (first | (with_reducible first | exact HB.out | apply below_alloc | apply pw_below_drewN | apply below_drew1 | refine below_set ?_ GE154.out) | exact HB.out))⟩)
           rintro gb154 w40 ⟨hS_, h0_, h1_, h2_, h3_, h4_⟩
           have n0_ : Aside0 (Kd.R k23 23 w40 w.heap.size (fun k_ => k_ ≠ gb154) (.slice (some ad148) x5_5.length co15) x5_5) := ⟨h0_⟩
           have n1_ : Aside0 (w40.heap[gb154]? = some (.cells #[.int .i64 0, .int .i64 0, .int .i64 0] 23 (0, 0))) := ⟨h1_⟩
           have n2_ : Aside0 (w.heap.size ≤ gb154) := ⟨h2_⟩
           have n3_ : Aside0 (w.heap.size ≤ gb154) := ⟨h3_⟩
           have n4_ : Aside0 (Below w.heap.size w w40) := ⟨h4_⟩
           clear HO_5
           clear HB
           clear h0_ h1_ h2_ h3_ h4_
           have HO_5 := n0_
           have BK154 := n1_
           have GW154 := n2_
           have GE154 := n3_
           have HB := n4_
           clear n0_ n1_ n2_ n3_ n4_
           have hHeld : w40.cell? (ad148.add ((x52_4).toNat * 3)) = some (.int .i64 ((rd_T23 x5_5 x52_4).f0)) ∧ w40.cell? ⟨(ad148.add ((x52_4).toNat * 3)).block, (ad148.add ((x52_4).toNat * 3)).off + 1, none⟩ = some (.int .i64 ((rd_T23 x5_5 x52_4).f1)) ∧ w40.cell? ⟨(ad148.add ((x52_4).toNat * 3)).block, (ad148.add ((x52_4).toNat * 3)).off + 2, none⟩ = some (.int .i64 ((rd_T23 x5_5 x52_4).f2)) ∧ w40.cell? (ad148.add ((x57_5).toNat * 3)) = some (.int .i64 ((rd_T23 x5_5 x57_5).f0)) ∧ w40.cell? ⟨(ad148.add ((x57_5).toNat * 3)).block, (ad148.add ((x57_5).toNat * 3)).off + 1, none⟩ = some (.int .i64 ((rd_T23 x5_5 x57_5).f1)) ∧ w40.cell? ⟨(ad148.add ((x57_5).toNat * 3)).block, (ad148.add ((x57_5).toNat * 3)).off + 2, none⟩ = some (.int .i64 ((rd_T23 x5_5 x57_5).f2)) := hS_
           refine norm_ (a' := ?_) ?_ ?_
           rotate_left
           ·simp only [putAll, Act.put, List.setIfInBounds_toArray, List.set_cons_zero, List.set_cons_succ]
            rfl
           refine one_ (i := 14) (N := none) #[true, true, true, true, true, true, true, true, true, true, true, true, true, true, true, false] rfl rfl (one_of HT_.out (by kernel_rfl)) (by decide) (fun K hK => ?_)
           have hs41 : w40.cell? ⟨gb154, 0, none⟩ = some (.int .i64 0) := (blk_cell BK154.out 0).trans rfl
           have hfs41 := blk_frozen BK154.out 0
           have hs42 : w40.cell? ⟨gb154, 1, none⟩ = some (.int .i64 0) := (blk_cell BK154.out 1).trans rfl
           have hfs42 := blk_frozen BK154.out 1
           have hs43 : w40.cell? ⟨gb154, 2, none⟩ = some (.int .i64 0) := (blk_cell BK154.out 2).trans rfl
           have hfs43 := blk_frozen BK154.out 2
           refine skip_ (w1 := ?_) (by rfl) rfl ?_ ?_
           rotate_left
           ·go_simp
            rfl
           refine hK.out _ _ ⟨((cell_far (p := ⟨gb154, _, none⟩) (by first | exact Kd.own_blk (Kd.R_away HO_5.out (fun _ hk => hk)) | (simp only [add_block]; exact Kd.own_blk (Kd.R_away HO_5.out (fun _ hk => hk)))) _).trans (((cell_far (p := ⟨gb154, _, none⟩) (by first | exact Kd.own_blk (Kd.R_away HO_5.out (fun _ hk => hk)) | (simp only [add_block]; exact Kd.own_blk (Kd.R_away HO_5.out (fun _ hk => hk)))) _).trans (((cell_far (p := ⟨gb154, _, none⟩) (by first | exact Kd.own_blk (Kd.R_away HO_5.out (fun _ hk => hk)) | (simp only [add_block]; exact Kd.own_blk (Kd.R_away HO_5.out (fun _ hk => hk)))) _).trans (hHeld.1)))))), ((cell_far (p := ⟨gb154, _, none⟩) (by first | exact Kd.own_blk (Kd.R_away HO_5.out (fun _ hk => hk)) | (simp only [add_block]; exact Kd.own_blk (Kd.R_away HO_5.out (fun _ hk => hk)))) _).trans (((cell_far (p := ⟨gb154, _, none⟩) (by first | exact Kd.own_blk (Kd.R_away HO_5.out (fun _ hk => hk)) | (simp only [add_block]; exact Kd.own_blk (Kd.R_away HO_5.out (fun _ hk => hk)))) _).trans (((cell_far (p := ⟨gb154, _, none⟩) (by first | exact Kd.own_blk (Kd.R_away HO_5.out (fun _ hk => hk)) | (simp only [add_block]; exact Kd.own_blk (Kd.R_away HO_5.out (fun _ hk => hk)))) _).trans (hHeld.2.1)))))), ((cell_far (p := ⟨gb154, _, none⟩) (by first | exact Kd.own_blk (Kd.R_away HO_5.out (fun _ hk => hk)) | (simp only [add_block]; exact Kd.own_blk (Kd.R_away HO_5.out (fun _ hk => hk)))) _).trans (((cell_far (p := ⟨gb154, _, none⟩) (by first | exact Kd.own_blk (Kd.R_away HO_5.out (fun _ hk => hk)) | (simp only [add_block]; exact Kd.own_blk (Kd.R_away HO_5.out (fun _ hk => hk)))) _).trans (((cell_far (p := ⟨gb154, _, none⟩) (by first | exact Kd.own_blk (Kd.R_away HO_5.out (fun _ hk => hk)) | (simp only [add_block]; exact Kd.own_blk (Kd.R_away HO_5.out (fun _ hk => hk)))) _).trans (hHeld.2.2.1)))))), ((cell_far (p := ⟨gb154, _, none⟩) (by first | exact Kd.own_blk (Kd.R_away HO_5.out (fun _ hk => hk)) | (simp only [add_block]; exact Kd.own_blk (Kd.R_away HO_5.out (fun _ hk => hk)))) _).trans (((cell_far (p := ⟨gb154, _, none⟩) (by first | exact Kd.own_blk (Kd.R_away HO_5.out (fun _ hk => hk)) | (simp only [add_block]; exact Kd.own_blk (Kd.R_away HO_5.out (fun _ hk => hk)))) _).trans (((cell_far (p := ⟨gb154, _, none⟩) (by first | exact Kd.own_blk (Kd.R_away HO_5.out (fun _ hk => hk)) | (simp only [add_block]; exact Kd.own_blk (Kd.R_away HO_5.out (fun _ hk => hk)))) _).trans (hHeld.2.2.2.1)))))), ((cell_far (p := ⟨gb154, _, none⟩) (by first | exact Kd.own_blk (Kd.R_away HO_5.out (fun _ hk => hk)) | (simp only [add_block]; exact Kd.own_blk (Kd.R_away HO_5.out (fun _ hk => hk)))) _).trans (((cell_far (p := ⟨gb154, _, none⟩) (by first | exact Kd.own_blk (Kd.R_away HO_5.out (fun _ hk => hk)) | (simp only [add_block]; exact Kd.own_blk (Kd.R_away HO_5.out (fun _ hk => hk)))) _).trans (((cell_far (p := ⟨gb154, _, none⟩) (by first | exact Kd.own_blk (Kd.R_away HO_5.out (fun _ hk => hk)) | (simp only [add_block]; exact Kd.own_blk (Kd.R_away HO_5.out (fun _ hk => hk)))) _).trans (hHeld.2.2.2.2.1)))))), ((cell_far (p := ⟨gb154, _, none⟩) (by first | exact Kd.own_blk (Kd.R_away HO_5.out (fun _ hk => hk)) | (simp only [add_block]; exact Kd.own_blk (Kd.R_away HO_5.out (fun _ hk => hk)))) _).trans (((cell_far (p := ⟨gb154, _, none⟩) (by first | exact Kd.own_blk (Kd.R_away HO_5.out (fun _ hk => hk)) | (simp only [add_block]; exact Kd.own_blk (Kd.R_away HO_5.out (fun _ hk => hk)))) _).trans (((cell_far (p := ⟨gb154, _, none⟩) (by first | exact Kd.own_blk (Kd.R_away HO_5.out (fun _ hk => hk)) | (simp only [add_block]; exact Kd.own_blk (Kd.R_away HO_5.out (fun _ hk => hk)))) _).trans (hHeld.2.2.2.2.2))))))⟩ (fun hHeld => ?_)
           clear hK K
           refine pure_ (i := 15) (N := some 10) (v := ?_) (a' := ?_) #[true, true, true, true, true, true, true, true, true, true, true, true, true, true, true, true] rfl rfl (any_of HT_.out (by kernel_rfl)) (fun _ _ _ h => h) (Or.inl ⟨by rfl, ?_⟩) ?_ ?_
           rotate_left
           ·intro w'
            go_simp
            with_reducible rfl
           rotate_left
           ·simp only [Act.put, List.setIfInBounds_toArray, List.set_cons_zero, List.set_cons_succ, i64_w, i32_w]
            rfl
           refine done_ (done_of HT_.out (by kernel_rfl)) ?_
           have n0_ : Aside0 (Kd.R k23 23 (((w40.setCell ⟨gb154, 0, none⟩ (.int .i64 t150)).setCell ⟨gb154, 1, none⟩ (.int .i64 t151)).setCell ⟨gb154, 2, none⟩ (.int .i64 t152)) w.heap.size (fun k_ => k_ ≠ gb154) (.slice (some ad148) x5_5.length co15) x5_5) := ⟨by (with_reducible repeat (first | apply Kd.R_alloc | apply Kd.R_drewN | apply Kd.R_drew)); exact Kd.R_mono (Kd.R_far (p := ⟨gb154, 2, none⟩) (Kd.R_far (p := ⟨gb154, 1, none⟩) (Kd.R_far (p := ⟨gb154, 0, none⟩) (Kd.R_mono HO_5.out (fun k_ hk => (⟨hk, hk⟩ : _ ∧ k_ ≠ gb154))) (fun _ hk => hk.2) (.int .i64 t150)) (fun _ hk => hk.2) (.int .i64 t151)) (fun _ hk => hk.2) (.int .i64 t152)) (fun _ hk => hk.1)⟩
           have n1_ : Aside0 ((((w40.setCell ⟨gb154, 0, none⟩ (.int .i64 t150)).setCell ⟨gb154, 1, none⟩ (.int .i64 t151)).setCell ⟨gb154, 2, none⟩ (.int .i64 t152)).heap[gb154]? = some (.cells #[.int .i64 t150, .int .i64 t151, .int .i64 t152] 23 (0, 0))) := ⟨by (with_reducible repeat (first | refine blk_drewN ?_ _ | refine blk_drew ?_ | refine blk_alloc ?_ _)); refine blk_put (cs := #[.int .i64 t150, .int .i64 t151, .int .i64 0]) ?_ 2 _ rfl; (with_reducible repeat (first | refine blk_drewN ?_ _ | refine blk_drew ?_ | refine blk_alloc ?_ _)); refine blk_put (cs := #[.int .i64 t150, .int .i64 0, .int .i64 0]) ?_ 1 _ rfl; (with_reducible repeat (first | refine blk_drewN ?_ _ | refine blk_drew ?_ | refine blk_alloc ?_ _)); refine blk_put (cs := #[.int .i64 0, .int .i64 0, .int .i64 0]) ?_ 0 _ rfl; (with_reducible repeat (first | refine blk_drewN ?_ _ | refine blk_drew ?_ | refine blk_alloc ?_ _)); exact BK154.out⟩
           have n2_ : Aside0 (Below w.heap.size w (((w40.setCell ⟨gb154, 0, none⟩ (.int .i64 t150)).setCell ⟨gb154, 1, none⟩ (.int .i64 t151)).setCell ⟨gb154, 2, none⟩ (.int .i64 t152))) := ⟨by repeat (first | (with_reducible first | exact HB.out | apply below_alloc | apply pw_below_drewN | apply below_drew1 | refine below_set ?_ GE154.out) | exact HB.out)⟩
           (try clear HO_5)
           (try clear BK154)
           (try clear HB)
           generalize (((w40.setCell ⟨gb154, 0, none⟩ (.int .i64 t150)).setCell ⟨gb154, 1, none⟩ (.int .i64 t151)).setCell ⟨gb154, 2, none⟩ (.int .i64 t152)) = w44 at n0_ n1_ n2_ ⊢
           have HO_5 := n0_
           have BK154 := n1_
           have HB := n2_
           clear n0_ n1_ n2_
           have hcz45_0 : w44.cell? ⟨gb154, 0, none⟩ = some (.int .i64 t150) := (blk_cell BK154.out 0).trans rfl
           have hcz45_1 : w44.cell? ⟨gb154, 1, none⟩ = some (.int .i64 t151) := (blk_cell BK154.out 1).trans rfl
           have hcz45_2 : w44.cell? ⟨gb154, 2, none⟩ = some (.int .i64 t152) := (blk_cell BK154.out 2).trans rfl
           have hfz45_0 := blk_frozen BK154.out 0
           have hfz45_1 := blk_frozen BK154.out 1
           have hfz45_2 := blk_frozen BK154.out 2
           have p31 : 0 ≤ (x52_4 : Int) := of_decide_eq_true (by first | (with_reducible assumption) | assumption)
           have q31 : (x52_4 : Int) < ((x5_5.length : Int) : Int) := of_decide_eq_true (by first | (with_reducible assumption) | assumption)
           obtain ⟨go31, co31, eo31, gb31, gl31, cl31, HG31⟩ := Kd.R_form HO_5.out (by omega)
           (first | cases eo31 | (injection eo31 with ea_ en_ ec_; (first | subst ea_ | (injection ea_ with ea_; subst ea_)); subst ec_; clear en_))
           have GB31 := Aside0.mk gb31
           have GG31 := Aside0.mk HG31
           clear gb31 gl31 HG31
           (first | simp only [add_plain] at hx148_0 | skip)
           (first | simp only [add_plain] at hx148_1 | skip)
           (first | simp only [add_plain] at hx148_2 | skip)
           (first | simp only [add_plain] at hx149_0 | skip)
           (first | simp only [add_plain] at hx149_1 | skip)
           (first | simp only [add_plain] at hx149_2 | skip)
           obtain ⟨ce31, hcl31, hM31, hcc31, hfr31⟩ := Kd.R_elem HO_5.out z23 (x52_4 : Int) p31 q31
           obtain rfl := k23_openM hM31
           have hx31_0 : w44.cell? ⟨go31, (x52_4 : Int).toNat * 3, none⟩ = some (.int .i64 ((rd_T23 x5_5 x52_4).f0)) := hcc31 0 _ rfl
           have hx31_1 : w44.cell? ⟨go31, (x52_4 : Int).toNat * 3 + 1, none⟩ = some (.int .i64 ((rd_T23 x5_5 x52_4).f1)) := hcc31 1 _ rfl
           have hx31_2 : w44.cell? ⟨go31, (x52_4 : Int).toNat * 3 + 2, none⟩ = some (.int .i64 ((rd_T23 x5_5 x52_4).f2)) := hcc31 2 _ rfl
           have hf31_0 : w44.frozen? ⟨go31, (x52_4 : Int).toNat * 3, none⟩ = false := hfr31 0
           have hf31_1 : w44.frozen? ⟨go31, (x52_4 : Int).toNat * 3 + 1, none⟩ = false := hfr31 1
           have hf31_2 : w44.frozen? ⟨go31, (x52_4 : Int).toNat * 3 + 2, none⟩ = false := hfr31 2
           clear hcl31 hcc31 hfr31 hM31
           replace p31 := eq_true p31
           replace q31 := eq_true q31
           have HX46 := Aside0.mk (show Kd.R k23 23 w44 w.heap.size (fun k_ => k_ ≠ gb154) (.slice (some ⟨go31, 0, none⟩) x5_5.length co15) x5_5 from (by (with_reducible repeat (first | apply Kd.R_alloc | apply Kd.R_drewN | apply Kd.R_drew)); exact HO_5.out))
           obtain ⟨ce46, hcl46, hM46, hcc46, hfr46⟩ := Kd.R_elem HX46.out z23 (x52_4 : Int) (of_decide_eq_true (by first | (with_reducible assumption) | assumption)) (by have h_ : (x52_4 : Int) < ((x5_5.length : Int) : Int) := of_decide_eq_true (by first | (with_reducible assumption) | assumption); first | exact h_ | (have e_ := (Kd.R_reads' HO_5.out).1; omega) | simpa using h_)
           obtain rfl := k23_openM hM46
           have HP46 := Kd.R_seg HX46.out (x52_4 : Int) (of_decide_eq_true (by first | (with_reducible assumption) | assumption)) (by have h_ : (x52_4 : Int) < ((x5_5.length : Int) : Int) := of_decide_eq_true (by first | (with_reducible assumption) | assumption); first | exact h_ | (have e_ := (Kd.R_reads' HO_5.out).1; omega) | simpa using h_) (seg := [.int .i64 t150, .int .i64 t151, .int .i64 t152]) (j := 0) hcl46 hcc46 (show 3 ≤ 3 from by decide) (x' := (⟨t150, t151, t152⟩ : S23)) (k23_mkM _ _ _ (⟨t150, t151, t152⟩ : S23) ) (fun _ hk => hk)
           have hx46_0 := hcc46 0 _ rfl
           (try simp only [show (k23).sz = 3 from rfl, Nat.mul_one, Nat.add_zero] at hx46_0)
           have hf46_0 := hfr46 0
           (try simp only [show (k23).sz = 3 from rfl, Nat.mul_one, Nat.add_zero] at hf46_0)
           have hx46_1 := hcc46 1 _ rfl
           (try simp only [show (k23).sz = 3 from rfl, Nat.mul_one, Nat.add_zero] at hx46_1)
           have hf46_1 := hfr46 1
           (try simp only [show (k23).sz = 3 from rfl, Nat.mul_one, Nat.add_zero] at hf46_1)
           have hx46_2 := hcc46 2 _ rfl
           (try simp only [show (k23).sz = 3 from rfl, Nat.mul_one, Nat.add_zero] at hx46_2)
           have hf46_2 := hfr46 2
           (try simp only [show (k23).sz = 3 from rfl, Nat.mul_one, Nat.add_zero] at hf46_2)
           clear hcl46 hcc46 hfr46 hM46
           try go_wp2_with (first | ((with_reducible refine gate_store (t := 23) (p := 78) rfl ?_); refine store_event (t := 23) (p := 78) (v := ?vo_w47) (w1 := (((w44.setCell ⟨go31, (x52_4 : Int).toNat * 3, none⟩ (.int .i64 t150)).setCell ⟨go31, (x52_4 : Int).toNat * 3 + 1, none⟩ (.int .i64 t151)).setCell ⟨go31, (x52_4 : Int).toNat * 3 + 2, none⟩ (.int .i64 t152))) ?hg ?ho ?hn ?hr ?_; (case ho => rfl); (case hg => rfl); (case hn => rfl); (case hr => first | (go_simp; done) | (go_simp; rfl)); intro w47 hw; have hg : w44.grownBy w47 (some go31) := (by rw [hw]; exact HP46.2); have hp_ : Kd.R k23 23 w47 w.heap.size (fun k_ => k_ ≠ gb154) (.slice (some ⟨go31, 0, none⟩) x5_5.length co15) y155 := (by rw [hw, Ny155.out]; exact HP46.1); clear HP46; have n0_ := Aside0.mk (hp_); have n1_ := Aside0.mk (blk_grown (g := gb154) (o := .cells #[.int .i64 t150, .int .i64 t151, .int .i64 t152] 23 (0, 0)) (by (with_reducible repeat (first | refine blk_drewN ?_ _ | refine blk_drew ?_ | refine blk_alloc ?_ _)); exact BK154.out) hg (Kd.R_away HO_5.out (fun _ hk => hk))); have n2_ := Aside0.mk ((by rw [hw]; exact below_set (below_set (below_set (HB.out) GB31.out) GB31.out) GB31.out : Below w.heap.size w w47)); clear HO_5; clear BK154; clear HB; have HO_5 := n0_; have BK154 := n1_; have HB := n2_; clear n0_ n1_ n2_; clear hg hw hp_))
           have n0_ := Aside0.mk (Kd.R_drew HO_5.out)
           have n1_ := Aside0.mk (blk_drew BK154.out)
           have n2_ := Aside0.mk (below_drew1 HB.out)
           clear HO_5
           clear BK154
           clear HB
           have HO_5 := n0_
           have BK154 := n1_
           have HB := n2_
           clear n0_ n1_ n2_
           have p156 : 0 ≤ (x52_4 : Int) := of_decide_eq_true (by first | (with_reducible assumption) | assumption)
           have q156 : x52_4 < (y155.length : Int) := (by have h_ : (x52_4 : Int) < ((x5_5.length : Int) : Int) := of_decide_eq_true (by first | (with_reducible assumption) | assumption); first | (have e_ := (Kd.R_reads' HO_5.out).1; omega) | simpa only [Ny155.out, List.length_set] using h_)
           have ql156 : ((x52_4 : Int) < ((x5_5.length : Int) : Int)) = True := eq_true (of_decide_eq_true (by first | (with_reducible assumption) | assumption))
           obtain ⟨ad156, e156, hx156_0, hx156_1, hx156_2⟩ := at_T23 (Kd.R_reads' HO_5.out).2.2 x52_4 p156 q156
           obtain rfl : (⟨go31, 0, none⟩ : Addr) = ad156 := (by injection e156)
           (first | simp only [add_plain] at hx156_0 | simp only [add_at] at hx156_0 | simp only [Addr.add, Nat.zero_add] at hx156_0 | skip)
           (first | simp only [add_plain] at hx156_1 | simp only [add_at] at hx156_1 | simp only [Addr.add, Nat.zero_add] at hx156_1 | skip)
           (first | simp only [add_plain] at hx156_2 | simp only [add_at] at hx156_2 | simp only [Addr.add, Nat.zero_add] at hx156_2 | skip)
           replace p156 := eq_true p156
           replace q156 := eq_true q156
           have p157 : 0 ≤ (x57_5 : Int) := of_decide_eq_true (by first | (with_reducible assumption) | assumption)
           have q157 : x57_5 < (y155.length : Int) := (by have h_ : (x57_5 : Int) < ((x5_5.length : Int) : Int) := of_decide_eq_true (by first | (with_reducible assumption) | assumption); first | (have e_ := (Kd.R_reads' HO_5.out).1; omega) | simpa only [Ny155.out, List.length_set] using h_)
           have ql157 : ((x57_5 : Int) < ((x5_5.length : Int) : Int)) = True := eq_true (of_decide_eq_true (by first | (with_reducible assumption) | assumption))
           obtain ⟨ad157, e157, hx157_0, hx157_1, hx157_2⟩ := at_T23 (Kd.R_reads' HO_5.out).2.2 x57_5 p157 q157
           obtain rfl : (⟨go31, 0, none⟩ : Addr) = ad157 := (by injection e157)
           (first | simp only [add_plain] at hx157_0 | simp only [add_at] at hx157_0 | simp only [Addr.add, Nat.zero_add] at hx157_0 | skip)
           (first | simp only [add_plain] at hx157_1 | simp only [add_at] at hx157_1 | simp only [Addr.add, Nat.zero_add] at hx157_1 | skip)
           (first | simp only [add_plain] at hx157_2 | simp only [add_at] at hx157_2 | simp only [Addr.add, Nat.zero_add] at hx157_2 | skip)
           replace p157 := eq_true p157
           replace q157 := eq_true q157
           refine start_ (n := 15) (S := fun w' => w'.cell? ⟨go31, (x52_4).toNat * 3, none⟩ = some (.int .i64 ((rd_T23 y155 x52_4).f0)) ∧ w'.cell? ⟨go31, (x52_4).toNat * 3 + 1, none⟩ = some (.int .i64 ((rd_T23 y155 x52_4).f1)) ∧ w'.cell? ⟨go31, (x52_4).toNat * 3 + 2, none⟩ = some (.int .i64 ((rd_T23 y155 x52_4).f2)) ∧ w'.cell? ⟨go31, (x57_5).toNat * 3, none⟩ = some (.int .i64 ((rd_T23 y155 x57_5).f0)) ∧ w'.cell? ⟨go31, (x57_5).toNat * 3 + 1, none⟩ = some (.int .i64 ((rd_T23 y155 x57_5).f1)) ∧ w'.cell? ⟨go31, (x57_5).toNat * 3 + 2, none⟩ = some (.int .i64 ((rd_T23 y155 x57_5).f2))) (ds := []) #[false, false, false, false, false, false, false, false, false, false, false, false, false, false, false] (by kernel_rfl) rfl rfl ⟨hx156_0, hx156_1, hx156_2, hx157_0, hx157_1, hx157_2⟩ (fun hHeld => ?_); refine with_tabW grapevinelaw06_EpochParts.tab23 grapevinelaw06_EpochParts.bits23 (fun HT_ HW_ => ?_)
           generalize w47.drew = w48 at HO_5 BK154 HB hx156_0 hx156_1 hx156_2 hx157_0 hx157_1 hx157_2 hHeld ⊢
           refine pure_ (i := 0) (N := some 79) (v := ?_) (a' := ?_) #[true, false, false, false, false, false, false, false, false, false, false, false, false, false, false] rfl rfl (any_of HT_.out (by kernel_rfl)) (fun _ _ _ h => h) (Or.inl ⟨by rfl, ?_⟩) ?_ ?_
           rotate_left
           ·intro w'
            go_simp
            with_reducible rfl
           rotate_left
           ·simp only [Act.put, List.setIfInBounds_toArray, List.set_cons_zero, List.set_cons_succ, i64_w, i32_w]
            rfl
           refine pure_ (i := 1) (N := some 80) (v := ?_) (a' := ?_) #[true, true, false, false, false, false, false, false, false, false, false, false, false, false, false] rfl rfl (any_of HT_.out (by kernel_rfl)) (fun _ _ _ h => h) (Or.inl ⟨by rfl, ?_⟩) ?_ ?_
           rotate_left
           ·intro w'
            go_simp
            with_reducible rfl
           rotate_left
           ·simp only [Act.put, List.setIfInBounds_toArray, List.set_cons_zero, List.set_cons_succ, i64_w, i32_w]
            rfl
           refine pure_ (i := 2) (N := some 81) (v := ?_) (a' := ?_) #[true, true, true, false, false, false, false, false, false, false, false, false, false, false, false] rfl rfl (any_of HT_.out (by kernel_rfl)) (fun _ _ _ h => h) (Or.inl ⟨by rfl, ?_⟩) ?_ ?_
           rotate_left
           ·intro w'
            go_simp
            with_reducible rfl
           rotate_left
           ·simp only [Act.put, List.setIfInBounds_toArray, List.set_cons_zero, List.set_cons_succ, i64_w, i32_w]
            rfl
           refine pure_ (i := 3) (N := some 82) (v := ?_) (a' := ?_) #[true, true, true, true, false, false, false, false, false, false, false, false, false, false, false] rfl rfl (any_of HT_.out (by kernel_rfl)) (fun _ _ _ h => h) (Or.inl ⟨by rfl, ?_⟩) ?_ ?_
           rotate_left
           ·intro w'
            go_simp
            with_reducible rfl
           rotate_left
           ·simp only [Act.put, List.setIfInBounds_toArray, List.set_cons_zero, List.set_cons_succ, i64_w, i32_w]
            rfl
           refine pure_ (i := 4) (N := some 83) (v := ?_) (a' := ?_) #[true, true, true, true, true, false, false, false, false, false, false, false, false, false, false] rfl rfl (any_of HT_.out (by kernel_rfl)) (fun _ _ _ h => h) (Or.inl ⟨by rfl, ?_⟩) ?_ ?_
           rotate_left
           ·intro w'
            go_simp
            with_reducible rfl
           rotate_left
           ·simp only [Act.put, List.setIfInBounds_toArray, List.set_cons_zero, List.set_cons_succ, i64_w, i32_w]
            rfl
           refine pure_ (i := 5) (N := some 84) (v := ?_) (a' := ?_) #[true, true, true, true, true, true, false, false, false, false, false, false, false, false, false] rfl rfl (any_of HT_.out (by kernel_rfl)) (fun _ _ _ h => h) (Or.inl ⟨by rfl, ?_⟩) ?_ ?_
           rotate_left
           ·intro w'
            go_simp
            with_reducible rfl
           rotate_left
           ·simp only [Act.put, List.setIfInBounds_toArray, List.set_cons_zero, List.set_cons_succ, i64_w, i32_w]
            rfl
           refine pure_ (i := 6) (N := some 85) (v := ?_) (a' := ?_) #[true, true, true, true, true, true, true, false, false, false, false, false, false, false, false] rfl rfl (any_of HT_.out (by kernel_rfl)) (fun _ _ _ h => h) (Or.inl ⟨by rfl, ?_⟩) ?_ ?_
           rotate_left
           ·intro w'
            go_simp
            with_reducible rfl
           rotate_left
           ·simp only [Act.put, List.setIfInBounds_toArray, List.set_cons_zero, List.set_cons_succ, i64_w, i32_w]
            rfl
           refine pure_ (i := 7) (N := some 86) (v := ?_) (a' := ?_) #[true, true, true, true, true, true, true, true, false, false, false, false, false, false, false] rfl rfl (any_of HT_.out (by kernel_rfl)) (fun _ _ _ h => h) (Or.inl ⟨by rfl, ?_⟩) ?_ ?_
           rotate_left
           ·intro w'
            go_simp
            with_reducible rfl
           rotate_left
           ·simp only [Act.put, List.setIfInBounds_toArray, List.set_cons_zero, List.set_cons_succ, i64_w, i32_w]
            rfl
           refine pure_ (i := 9) (N := some 88) (v := ?_) (a' := ?_) #[true, true, true, true, true, true, true, true, false, true, false, false, false, false, false] rfl rfl (any_of HT_.out (by kernel_rfl)) (fun _ _ _ h => h) (Or.inl ⟨by rfl, ?_⟩) ?_ ?_
           rotate_left
           ·intro w'
            go_simp
            with_reducible rfl
           rotate_left
           ·simp only [Act.put, List.setIfInBounds_toArray, List.set_cons_zero, List.set_cons_succ, i64_w, i32_w]
            rfl
           refine pure_ (i := 10) (N := some 89) (v := ?_) (a' := ?_) #[true, true, true, true, true, true, true, true, false, true, true, false, false, false, false] rfl rfl (any_of HT_.out (by kernel_rfl)) (fun _ _ _ h => h) (Or.inl ⟨by rfl, ?_⟩) ?_ ?_
           rotate_left
           ·intro w'
            go_simp
            with_reducible rfl
           rotate_left
           ·simp only [Act.put, List.setIfInBounds_toArray, List.set_cons_zero, List.set_cons_succ, i64_w, i32_w]
            rfl
           refine pure_ (i := 11) (N := some 90) (v := ?_) (a' := ?_) #[true, true, true, true, true, true, true, true, false, true, true, true, false, false, false] rfl rfl (any_of HT_.out (by kernel_rfl)) (fun _ _ _ h => h) (Or.inl ⟨by rfl, ?_⟩) ?_ ?_
           rotate_left
           ·intro w'
            go_simp
            with_reducible rfl
           rotate_left
           ·simp only [Act.put, List.setIfInBounds_toArray, List.set_cons_zero, List.set_cons_succ, i64_w, i32_w]
            rfl
           refine pure_ (i := 12) (N := some 91) (v := ?_) (a' := ?_) #[true, true, true, true, true, true, true, true, false, true, true, true, true, false, false] rfl rfl (any_of HT_.out (by kernel_rfl)) (fun _ _ _ h => h) (Or.inl ⟨by rfl, ?_⟩) ?_ ?_
           rotate_left
           ·intro w'
            go_simp
            with_reducible rfl
           rotate_left
           ·simp only [Act.put, List.setIfInBounds_toArray, List.set_cons_zero, List.set_cons_succ, i64_w, i32_w]
            rfl
           refine take_ (i := 8) (N := some 87) (v := ?_) (a' := ?_) #[true, true, true, true, true, true, true, true, true, true, true, true, true, false, false] rfl rfl (take_ofW HT_.out HW_.out (by kernel_rfl)) (fun _ _ _ h => h) (Or.inl ⟨by rfl, ?_⟩) hHeld ?_ ?_
           rotate_left
           ·rintro w' ⟨s0, s1, s2, s3, s4, s5⟩
            go_simp
            with_reducible rfl
           rotate_left
           ·simp only [Act.put, List.setIfInBounds_toArray, List.set_cons_zero, List.set_cons_succ, i64_w, i32_w]
            rfl
           refine take_ (i := 13) (N := some 92) (v := ?_) (a' := ?_) #[true, true, true, true, true, true, true, true, true, true, true, true, true, true, false] rfl rfl (take_ofW HT_.out HW_.out (by kernel_rfl)) (fun _ _ _ h => h) (Or.inl ⟨by rfl, ?_⟩) hHeld ?_ ?_
           rotate_left
           ·rintro w' ⟨s0, s1, s2, s3, s4, s5⟩
            go_simp
            with_reducible rfl
           rotate_left
           ·simp only [Act.put, List.setIfInBounds_toArray, List.set_cons_zero, List.set_cons_succ, i64_w, i32_w]
            rfl
           refine one_ (i := 14) (N := some 93) #[true, true, true, true, true, true, true, true, true, true, true, true, true, true, true] rfl rfl (one_of HT_.out (by kernel_rfl)) (by decide) (fun K hK => ?_)
           refine goes_ Try.func17 (by kernel_rfl) rfl #[.int .i64 (wrap64 (x52_4 + 1)), .int .i64 (wrap64 (x57_5 + 1)), .int .i64 ((rd_T23 y155 x52_4).f2), .int .i64 ((rd_T23 y155 x57_5).f2)] (by rfl) rfl rfl (by (try simp only [List.map_toArray, List.map_cons, List.map_nil]); first | done | rfl | (simp only [List.length_drop, List.length_take]; rfl)) ?_
           with_reducible refine (epoch_Yields.calls (wrap64 (x52_4 + 1)) (wrap64 (x57_5 + 1)) ((rd_T23 y155 x52_4).f2) ((rd_T23 y155 x57_5).f2) true _ A32.out).mono ?_
           rintro e w' ⟨rfl, ⟨nd, rfl⟩⟩
           refine ⟨_, rfl, ?_⟩
           refine hK.out _ _ ⟨hHeld.1, hHeld.2.1, hHeld.2.2.1, hHeld.2.2.2.1, hHeld.2.2.2.2.1, hHeld.2.2.2.2.2⟩ (fun hHeld => ?_)
           clear hK K
           refine norm_ (a' := ?_) ?_ ?_
           rotate_left
           ·show Act.put _ (some 93) _ = _
            simp only [Act.put, List.setIfInBounds_toArray, List.set_cons_zero, List.set_cons_succ, i64_w, i32_w]
            rfl
           refine done_ (done_of HT_.out (by kernel_rfl)) ?_
           have p159 : 0 ≤ (x52_4 : Int) := of_decide_eq_true (by first | (with_reducible assumption) | assumption)
           have q159 : x52_4 < (y155.length : Int) := (by have h_ : (x52_4 : Int) < ((x5_5.length : Int) : Int) := of_decide_eq_true (by first | (with_reducible assumption) | assumption); first | (have e_ := (Kd.R_reads' HO_5.out).1; omega) | simpa only [Ny155.out, List.length_set] using h_)
           have ql159 : ((x52_4 : Int) < ((x5_5.length : Int) : Int)) = True := eq_true (of_decide_eq_true (by first | (with_reducible assumption) | assumption))
           obtain ⟨ad159, e159, hx159_0, hx159_1, hx159_2⟩ := at_T23 (Kd.R_reads' HO_5.out).2.2 x52_4 p159 q159
           obtain rfl : (⟨go31, 0, none⟩ : Addr) = ad159 := (by injection e159)
           (first | simp only [add_plain] at hx159_0 | simp only [add_at] at hx159_0 | simp only [Addr.add, Nat.zero_add] at hx159_0 | skip)
           (first | simp only [add_plain] at hx159_1 | simp only [add_at] at hx159_1 | simp only [Addr.add, Nat.zero_add] at hx159_1 | skip)
           (first | simp only [add_plain] at hx159_2 | simp only [add_at] at hx159_2 | simp only [Addr.add, Nat.zero_add] at hx159_2 | skip)
           replace p159 := eq_true p159
           replace q159 := eq_true q159
           try go_wp2_with (first | ((with_reducible refine gate_callee (f := 21) rfl ?_); refine goesL_ (some 99) rfl rfl Try.func21 (by kernel_rfl) rfl #[.agg #[.int .i64 ((rd_T23 y155 x52_4).f0), .int .i64 ((rd_T23 y155 x52_4).f1), .int .i64 ((rd_T23 y155 x52_4).f2)]] rfl (by (try simp only [List.map_toArray, List.map_cons, List.map_nil]); first | done | rfl | (simp only [List.length_drop, List.length_take]; rfl)) ?_; (with_reducible refine (epoch_Epochs_Bump.calls ((rd_T23 y155 x52_4).f0) ((rd_T23 y155 x52_4).f1) ((rd_T23 y155 x52_4).f2) t160 t161 t162 t163 _ A34.out).mono ?_); rintro e w49 ⟨rfl, hb⟩; refine ⟨_, rfl, ?_⟩; have n0_ := Aside0.mk (Kd.R_below (by (with_reducible repeat (first | apply Kd.R_alloc | apply Kd.R_drewN | apply Kd.R_drew)); exact HO_5.out) hb); have n1_ := Aside0.mk (blk_below (g := gb154) (o := .cells #[.int .i64 t150, .int .i64 t151, .int .i64 t152] 23 (0, 0)) (by (with_reducible repeat (first | refine blk_drewN ?_ _ | refine blk_drew ?_ | refine blk_alloc ?_ _)); exact BK154.out) hb); have n2_ := Aside0.mk (below_step (by repeat (first | (with_reducible first | exact HB.out | apply below_alloc | apply pw_below_drewN | apply below_drew1 | refine below_set ?_ GE154.out) | exact HB.out)) hb); clear HO_5; clear BK154; clear HB; have HO_5 := n0_; have BK154 := n1_; have HB := n2_; clear n0_ n1_ n2_; (try clear hb); (try clear hb2); (try clear hk); (try clear hi)) | ((with_reducible refine gate_dst (N := 11) rfl ?_); refine box_event ?hg (N := 11) ?hd (cs := #[.int .i64 0, .int .i64 0, .int .i64 0]) (t := 23) ?hr ?_; (case hd => rfl); (case hg => rfl); (case hr => first | (go_simp; done) | (go_simp; rfl)); intro gb164 hg w50 hbox hb; have n0_ := Aside0.mk (Kd.R_below (Kd.R_elderB (by (with_reducible repeat (first | apply Kd.R_alloc | apply Kd.R_drewN | apply Kd.R_drew)); exact HO_5.out) gb164 (Nat.le_of_eq hg.symm)) hb); have n1_ := Aside0.mk (blk_below (g := gb154) (o := .cells #[.int .i64 t150, .int .i64 t151, .int .i64 t152] 23 (0, 0)) (by (with_reducible repeat (first | refine blk_drewN ?_ _ | refine blk_drew ?_ | refine blk_alloc ?_ _)); exact BK154.out) hb); have n2_ := Aside0.mk (below_step (by repeat (first | (with_reducible first | exact HB.out | apply below_alloc | apply pw_below_drewN | apply below_drew1 | refine below_set ?_ GE154.out) | exact HB.out)) hb); have n3_ := Aside0.mk (hbox); have n4_ := Aside0.mk ((by rw [hg]; exact (below_size (by repeat (first | (with_reducible first | exact HB.out | apply below_alloc | apply pw_below_drewN | apply below_drew1 | refine below_set ?_ GE154.out) | exact HB.out))) : w.heap.size ≤ gb164)); have n5_ := Aside0.mk ((by rw [hg]; exact (below_size (by repeat (first | (with_reducible first | exact HB.out | apply below_alloc | apply pw_below_drewN | apply below_drew1 | refine below_set ?_ GE154.out) | exact HB.out))) : w.heap.size ≤ gb164)); have n6_ := Aside0.mk ((by rw [hg]; exact Nat.ne_of_lt (blk_lt (g := gb154) (o := .cells #[.int .i64 t150, .int .i64 t151, .int .i64 t152] 23 (0, 0)) (by (with_reducible repeat (first | refine blk_drewN ?_ _ | refine blk_drew ?_ | refine blk_alloc ?_ _)); exact BK154.out)) : gb154 ≠ gb164)); have n7_ := Aside0.mk ((by rw [hg]; exact Nat.ne_of_gt (blk_lt (g := gb154) (o := .cells #[.int .i64 t150, .int .i64 t151, .int .i64 t152] 23 (0, 0)) (by (with_reducible repeat (first | refine blk_drewN ?_ _ | refine blk_drew ?_ | refine blk_alloc ?_ _)); exact BK154.out)) : gb164 ≠ gb154)); clear HO_5; clear BK154; clear HB; have HO_5 := n0_; have BK154 := n1_; have HB := n2_; have BK164 := n3_; have GW164 := n4_; have GE164 := n5_; have NB154_164 := n6_; have NB164_154 := n7_; clear n0_ n1_ n2_ n3_ n4_ n5_ n6_ n7_; clear hb hbox hg; have hnb51 := NB164_154.out; have hnc51 := NB154_164.out; have hcz52_0 : w50.cell? ⟨gb164, 0, none⟩ = some (.int .i64 0) := (blk_cell BK164.out 0).trans rfl; have hcz52_1 : w50.cell? ⟨gb164, 1, none⟩ = some (.int .i64 0) := (blk_cell BK164.out 1).trans rfl; have hcz52_2 : w50.cell? ⟨gb164, 2, none⟩ = some (.int .i64 0) := (blk_cell BK164.out 2).trans rfl; have hfz52_0 := blk_frozen BK164.out 0; have hfz52_1 := blk_frozen BK164.out 1; have hfz52_2 := blk_frozen BK164.out 2) | ((with_reducible refine gate_store (t := 23) (p := 11) rfl ?_); refine store_event (t := 23) (p := 11) (v := ?vo_w53) (w1 := (((w50.setCell ⟨gb164, 0, none⟩ (.int .i64 t160)).setCell ⟨gb164, 1, none⟩ (.int .i64 t161)).setCell ⟨gb164, 2, none⟩ (.int .i64 t162))) ?hg ?ho ?hn ?hr ?_; (case ho => rfl); (case hg => rfl); (case hn => rfl); (case hr => first | (go_simp; done) | (go_simp; rfl)); intro w53 hw; have n0_ : Aside0 (Kd.R k23 23 w53 w.heap.size (fun k_ => k_ ≠ gb154 ∧ k_ ≠ gb164) (.slice (some ⟨go31, 0, none⟩) x5_5.length co15) y155) := ⟨(by rw [hw]; exact (by (with_reducible repeat (first | apply Kd.R_alloc | apply Kd.R_drewN | apply Kd.R_drew)); exact Kd.R_mono (Kd.R_far (p := ⟨gb164, 2, none⟩) (Kd.R_far (p := ⟨gb164, 1, none⟩) (Kd.R_far (p := ⟨gb164, 0, none⟩) (Kd.R_mono HO_5.out (fun k_ hk => (⟨hk, hk.2⟩ : _ ∧ k_ ≠ gb164))) (fun _ hk => hk.2) (.int .i64 t160)) (fun _ hk => hk.2) (.int .i64 t161)) (fun _ hk => hk.2) (.int .i64 t162)) (fun _ hk => ⟨hk.1.1, hk.1.2⟩)))⟩; have n1_ : Aside0 (w53.heap[gb154]? = some (.cells #[.int .i64 t150, .int .i64 t151, .int .i64 t152] 23 (0, 0))) := ⟨(by rw [hw]; exact (by (with_reducible repeat (first | refine blk_drewN ?_ _ | refine blk_drew ?_ | refine blk_alloc ?_ _)); refine blk_far ?_ NB154_164.out _; (with_reducible repeat (first | refine blk_drewN ?_ _ | refine blk_drew ?_ | refine blk_alloc ?_ _)); refine blk_far ?_ NB154_164.out _; (with_reducible repeat (first | refine blk_drewN ?_ _ | refine blk_drew ?_ | refine blk_alloc ?_ _)); refine blk_far ?_ NB154_164.out _; (with_reducible repeat (first | refine blk_drewN ?_ _ | refine blk_drew ?_ | refine blk_alloc ?_ _)); exact BK154.out))⟩; have n2_ : Aside0 (w53.heap[gb164]? = some (.cells #[.int .i64 t160, .int .i64 t161, .int .i64 t162] 23 (0, 0))) := ⟨(by rw [hw]; exact (by (with_reducible repeat (first | refine blk_drewN ?_ _ | refine blk_drew ?_ | refine blk_alloc ?_ _)); refine blk_put (cs := #[.int .i64 t160, .int .i64 t161, .int .i64 0]) ?_ 2 _ rfl; (with_reducible repeat (first | refine blk_drewN ?_ _ | refine blk_drew ?_ | refine blk_alloc ?_ _)); refine blk_put (cs := #[.int .i64 t160, .int .i64 0, .int .i64 0]) ?_ 1 _ rfl; (with_reducible repeat (first | refine blk_drewN ?_ _ | refine blk_drew ?_ | refine blk_alloc ?_ _)); refine blk_put (cs := #[.int .i64 0, .int .i64 0, .int .i64 0]) ?_ 0 _ rfl; (with_reducible repeat (first | refine blk_drewN ?_ _ | refine blk_drew ?_ | refine blk_alloc ?_ _)); exact BK164.out))⟩; have n3_ : Aside0 (Below w.heap.size w w53) := ⟨(by rw [hw]; exact (by repeat (first | (with_reducible first | exact HB.out | apply below_alloc | apply pw_below_drewN | apply below_drew1 | refine below_set ?_ GE154.out | refine below_set ?_ GE164.out) | exact HB.out)))⟩; clear hw; clear HO_5; clear BK154; clear BK164; clear HB; have HO_5 := n0_; have BK154 := n1_; have BK164 := n2_; have HB := n3_; clear n0_ n1_ n2_ n3_; have hcz54_0 : w53.cell? ⟨gb164, 0, none⟩ = some (.int .i64 t160) := (blk_cell BK164.out 0).trans rfl; have hcz54_1 : w53.cell? ⟨gb164, 1, none⟩ = some (.int .i64 t161) := (blk_cell BK164.out 1).trans rfl; have hcz54_2 : w53.cell? ⟨gb164, 2, none⟩ = some (.int .i64 t162) := (blk_cell BK164.out 2).trans rfl; have hfz54_0 := blk_frozen BK164.out 0; have hfz54_1 := blk_frozen BK164.out 1; have hfz54_2 := blk_frozen BK164.out 2; have p36 : 0 ≤ (x52_4 : Int) := of_decide_eq_true (by first | (with_reducible assumption) | assumption); have q36 : (x52_4 : Int) < ((x5_5.length : Int) : Int) := of_decide_eq_true (by first | (with_reducible assumption) | assumption); obtain ⟨ce36, hcl36, hM36, hcc36, hfr36⟩ := Kd.R_elem HO_5.out z23 (x52_4 : Int) p36 q36; obtain rfl := k23_openM hM36; have hx36_0 : w53.cell? ⟨go31, (x52_4 : Int).toNat * 3, none⟩ = some (.int .i64 ((rd_T23 y155 x52_4).f0)) := hcc36 0 _ rfl; have hx36_1 : w53.cell? ⟨go31, (x52_4 : Int).toNat * 3 + 1, none⟩ = some (.int .i64 ((rd_T23 y155 x52_4).f1)) := hcc36 1 _ rfl; have hx36_2 : w53.cell? ⟨go31, (x52_4 : Int).toNat * 3 + 2, none⟩ = some (.int .i64 ((rd_T23 y155 x52_4).f2)) := hcc36 2 _ rfl; have hf36_0 : w53.frozen? ⟨go31, (x52_4 : Int).toNat * 3, none⟩ = false := hfr36 0; have hf36_1 : w53.frozen? ⟨go31, (x52_4 : Int).toNat * 3 + 1, none⟩ = false := hfr36 1; have hf36_2 : w53.frozen? ⟨go31, (x52_4 : Int).toNat * 3 + 2, none⟩ = false := hfr36 2; clear hcl36 hcc36 hfr36 hM36; replace p36 := eq_true p36; replace q36 := eq_true q36; have HX55 := Aside0.mk (show Kd.R k23 23 w53 w.heap.size (fun k_ => k_ ≠ gb154 ∧ k_ ≠ gb164) (.slice (some ⟨go31, 0, none⟩) x5_5.length co15) y155 from (by (with_reducible repeat (first | apply Kd.R_alloc | apply Kd.R_drewN | apply Kd.R_drew)); exact HO_5.out)); obtain ⟨ce55, hcl55, hM55, hcc55, hfr55⟩ := Kd.R_elem HX55.out z23 (x52_4 : Int) (of_decide_eq_true (by first | (with_reducible assumption) | assumption)) (by have h_ : (x52_4 : Int) < ((x5_5.length : Int) : Int) := of_decide_eq_true (by first | (with_reducible assumption) | assumption); first | exact h_ | (have e_ := (Kd.R_reads' HO_5.out).1; omega) | simpa using h_); obtain rfl := k23_openM hM55; have HP55 := Kd.R_seg HX55.out (x52_4 : Int) (of_decide_eq_true (by first | (with_reducible assumption) | assumption)) (by have h_ : (x52_4 : Int) < ((x5_5.length : Int) : Int) := of_decide_eq_true (by first | (with_reducible assumption) | assumption); first | exact h_ | (have e_ := (Kd.R_reads' HO_5.out).1; omega) | simpa using h_) (seg := [.int .i64 t160, .int .i64 t161, .int .i64 t162]) (j := 0) hcl55 hcc55 (show 3 ≤ 3 from by decide) (x' := (⟨t160, t161, t162⟩ : S23)) (k23_mkM _ _ _ (⟨t160, t161, t162⟩ : S23) ) (fun _ hk => hk); have hx55_0 := hcc55 0 _ rfl; (try simp only [show (k23).sz = 3 from rfl, Nat.mul_one, Nat.add_zero] at hx55_0); have hf55_0 := hfr55 0; (try simp only [show (k23).sz = 3 from rfl, Nat.mul_one, Nat.add_zero] at hf55_0); have hx55_1 := hcc55 1 _ rfl; (try simp only [show (k23).sz = 3 from rfl, Nat.mul_one, Nat.add_zero] at hx55_1); have hf55_1 := hfr55 1; (try simp only [show (k23).sz = 3 from rfl, Nat.mul_one, Nat.add_zero] at hf55_1); have hx55_2 := hcc55 2 _ rfl; (try simp only [show (k23).sz = 3 from rfl, Nat.mul_one, Nat.add_zero] at hx55_2); have hf55_2 := hfr55 2; (try simp only [show (k23).sz = 3 from rfl, Nat.mul_one, Nat.add_zero] at hf55_2); clear hcl55 hcc55 hfr55 hM55) | ((with_reducible refine gate_store (t := 23) (p := 107) rfl ?_); refine store_event (t := 23) (p := 107) (v := ?vo_w56) (w1 := (((w53.setCell ⟨go31, (x52_4 : Int).toNat * 3, none⟩ (.int .i64 t160)).setCell ⟨go31, (x52_4 : Int).toNat * 3 + 1, none⟩ (.int .i64 t161)).setCell ⟨go31, (x52_4 : Int).toNat * 3 + 2, none⟩ (.int .i64 t162))) ?hg ?ho ?hn ?hr ?_; (case ho => rfl); (case hg => rfl); (case hn => rfl); (case hr => first | (go_simp; done) | (go_simp; rfl)); intro w56 hw; have hg : w53.grownBy w56 (some go31) := (by rw [hw]; exact HP55.2); have hp_ : Kd.R k23 23 w56 w.heap.size (fun k_ => k_ ≠ gb154 ∧ k_ ≠ gb164) (.slice (some ⟨go31, 0, none⟩) x5_5.length co15) y165 := (by rw [hw, Ny165.out]; exact HP55.1); clear HP55; have n0_ := Aside0.mk (hp_); have n1_ := Aside0.mk (blk_grown (g := gb154) (o := .cells #[.int .i64 t150, .int .i64 t151, .int .i64 t152] 23 (0, 0)) (by (with_reducible repeat (first | refine blk_drewN ?_ _ | refine blk_drew ?_ | refine blk_alloc ?_ _)); exact BK154.out) hg (Kd.R_away HO_5.out (fun _ hk => hk.1))); have n2_ := Aside0.mk (blk_grown (g := gb164) (o := .cells #[.int .i64 t160, .int .i64 t161, .int .i64 t162] 23 (0, 0)) (by (with_reducible repeat (first | refine blk_drewN ?_ _ | refine blk_drew ?_ | refine blk_alloc ?_ _)); exact BK164.out) hg (Kd.R_away HO_5.out (fun _ hk => hk.2))); have n3_ := Aside0.mk ((by rw [hw]; exact below_set (below_set (below_set (HB.out) GB31.out) GB31.out) GB31.out : Below w.heap.size w w56)); clear HO_5; clear BK154; clear BK164; clear HB; have HO_5 := n0_; have BK154 := n1_; have BK164 := n2_; have HB := n3_; clear n0_ n1_ n2_ n3_; clear hg hw hp_))
           (try simp only [← hl5_5])
           go_roundg k5
           case measure => have := HJ4.out; have := HK2.out; have := HK3.out; have := HK4.out; have := HK5.out; omega
           case rel => exact ⟨(y165), (wrap64 (x57_5 + 1)), (by first | rfl | (simp; done) | (simp [*]; done)), H', ⟨by have := HJ4.out; have := HK2.out; have := HK3.out; have := HK4.out; have := HK5.out; omega⟩, ⟨by (try simp only [hl5_2]); (try simp only [hl5_3]); (try simp only [hl5_4]); (try simp only [hl5_5]); (with_reducible repeat (first | apply Kd.R_alloc | apply Kd.R_drewN | apply Kd.R_drew)); exact Kd.R_mono HO_5.out (fun _ hk => trivial)⟩, ⟨by repeat (first | (with_reducible first | exact HB.out | apply below_alloc | apply pw_below_drewN | apply below_drew1 | refine below_set ?_ GE154.out | refine below_set ?_ GE164.out) | exact HB.out)⟩⟩

/-- THE ONE PURE STATEMENT of grapevinelaw06_EpochParts: yours. -/
def grapevinelaw06_EpochParts.Pure : Prop := ∀ (a0 : Int) (a1 : Int), (Lit.int .i64 a0).wf = true → (Lit.int .i64 a1).wf = true → ∃ k, grapevinelaw06_EpochParts.f k a0 a1 = some true
theorem grapevinelaw06_EpochParts.walk (P : grapevinelaw06_EpochParts.Pure) (a0 : Int) (a1 : Int) (w : World) (w0 : (Lit.int .i64 a0).wf = true) (w1 : (Lit.int .i64 a1).wf = true) :
  Calls Try.prog 11 #[.int .i64 a0, .int .i64 a1] w fun e w' => e = .returned (.bool true) ∧ Below w.heap.size w w' := by
 obtain ⟨k, h⟩ := P a0 a1 w0 w1
 refine (grapevinelaw06_EpochParts.calls k a0 a1 true w h).mono ?_
 rintro e w' ⟨rfl, hd⟩
 exact ⟨rfl, hd⟩
end Go.Proofs.Ytjlcaiijapjakaa.QEpochParts
