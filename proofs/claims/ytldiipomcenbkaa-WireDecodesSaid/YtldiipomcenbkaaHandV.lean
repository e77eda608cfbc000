/- The document's rightness, by hand. -/
import Derived.Test.YtldiipomcenbkaaHandM
import Derived.Test.YtldiipomcenbkaaHandF
namespace Go.Proofs.Ytldiipomcenbkaa.Qw
open Go.RowKit Go.Proofs.YtldiipomcenbkaaW.PrintWords Go.Proofs.YtldiipomcenbkaaW.PrintLast Go.Proofs.YtldiipomcenbkaaW.PrintMore
set_option linter.unusedVariables false
set_option linter.unusedSimpArgs false
theorem rd49 (l : List S48) (i : Int) : rd_T49 (l.map to49) i = to49 (rd_T48 l i) := by
  unfold rd_T49 rd_T48
  rw [List.getD_eq_getElem?_getD, List.getD_eq_getElem?_getD, List.getElem?_map]
  cases l[i.toNat]? <;> rfl
theorem rid_f (n : Int) : grapevineref11_id.f n = some (idB n) := by
  unfold grapevineref11_id.f idB
  by_cases h : n ≥ 1
  · rw [if_pos h, decide_eq_true (show 1 ≤ n from h), Bool.true_and]
  · rw [if_neg h, decide_eq_false (show ¬ 1 ≤ n from h), Bool.false_and]
def inB (n m : Int) : Bool := decide (0 ≤ n) && decide (n ≤ m)
theorem rin_f (n m : Int) : grapevineref11_in.f n m = some (inB n m) := by
  unfold grapevineref11_in.f inB
  by_cases h : n ≥ 0
  · rw [if_pos h, decide_eq_true (show 0 ≤ n from h), Bool.true_and]
  · rw [if_neg h, decide_eq_false (show ¬ 0 ≤ n from h), Bool.false_and]
theorem sec_l1 (a0 a1 a2 a3 a4 a5 a6 a7 a8 a9 : Int) (l : List S48) (y0 y1 : Int) (hmax : l.length ≤ 9223372036854775807) (i : Nat) (hi : i ≤ l.length) : ∀ d j k, j + d = i →
    grapevineref11_Packet_section.l1 (k + d + 1) i j a0 a1 a2 a3 a4 a5 a6 a7 a8 a9 (l.map to49) y0 y1 = if (((l.take i).drop j).any (sameId y0)) = true then some false else grapevineref11_Packet_section.l0 k (wrap64 ((i : Int) + 1)) a0 a1 a2 a3 a4 a5 a6 a7 a8 a9 (l.map to49) := by
  intro d
  induction d with
  | zero =>
    intro j k hj
    rw [grapevineref11_Packet_section.l1.eq_2, if_neg (by omega), List.drop_of_length_le (by rw [List.length_take]; omega)]
    simp
  | succ d ih =>
    intro j k hj
    have hw : wrap64 ((j : Int) + 1) = ((j + 1 : Nat) : Int) := by unfold wrap64; omega
    have hlen : (l.map to49).length = l.length := List.length_map _
    have hrd : rd_T48 (l.take i) (j : Int) = rd_T48 l (j : Int) := by
      unfold rd_T48
      rw [List.getD_eq_getElem?_getD, List.getD_eq_getElem?_getD, Int.toNat_natCast, List.getElem?_take, if_pos (by omega)]
    rw [show k + (d + 1) + 1 = (k + d + 1) + 1 by omega, grapevineref11_Packet_section.l1.eq_2, if_pos (by omega), if_pos (by omega), if_pos (by omega), hw, rd49, drop_at (l.take i) j (by rw [List.length_take]; omega), hrd, List.any_cons]
    by_cases h : (to49 (rd_T48 l (j : Int))).f0 = y0
    · have h2 : sameId y0 (rd_T48 l (j : Int)) = true := beq_iff_eq.mpr h
      rw [if_pos h, h2]
      simp
    · have h2 : sameId y0 (rd_T48 l (j : Int)) = false := beq_eq_false_iff_ne.mpr h
      rw [if_neg h, h2, Bool.false_or]
      exact ih (j + 1) k (by omega)
theorem sec_l0 (a0 a1 a2 a3 a4 a5 a6 a7 a8 a9 : Int) (l : List S48) (hmax : l.length ≤ 9223372036854775806) : ∀ d i k, i + d = l.length → grapevineref11_Packet_section.l0 (k + d * (l.length + 4) + 1) i a0 a1 a2 a3 a4 a5 a6 a7 a8 a9 (l.map to49) = some (secB a1 (l.take i) (l.drop i)) := by
  intro d
  induction d with
  | zero =>
    intro i k hi
    rw [show k + 0 * (l.length + 4) + 1 = k + 1 by omega, grapevineref11_Packet_section.l0.eq_2, if_neg (by rw [List.length_map]; omega), List.drop_of_length_le (by omega)]
    rfl
  | succ d ih =>
    intro i k hi
    have hw : wrap64 ((i : Int) + 1) = ((i + 1 : Nat) : Int) := by unfold wrap64; omega
    obtain ⟨m, hm⟩ : ∃ m, k + (d + 1) * (l.length + 4) + 1 = (m + i + 1 + 1) + 1 ∧ m = (k + (l.length - i) + 1) + d * (l.length + 4) + 1 := by
      refine ⟨_, ?_, rfl⟩
      rw [Nat.succ_mul]
      omega
    obtain ⟨hm1, hm2⟩ := hm
    have ih' := ih (i + 1) (k + (l.length - i) + 1) (by omega)
    rw [← hm2] at ih'
    rw [hm1, grapevineref11_Packet_section.l0.eq_2, if_pos (by rw [List.length_map]; omega), if_pos (by omega), rd49, drop_at l i (by omega)]
    obtain ⟨e, he⟩ : ∃ e, rd_T48 l (i : Int) = e := ⟨_, rfl⟩
    have ht := take_at l i (by omega)
    rw [he] at ht
    rw [he, rid_f, rin_f]
    simp only [Option.bind_some, secB]
    show (if idB e.f0 = true then if e.f0 = a1 then grapevineref11_Packet_section.j2 _ _ true a0 a1 a2 a3 a4 a5 a6 a7 a8 a9 _ e.f0 e.f1 else grapevineref11_Packet_section.j2 _ _ (!inB e.f1 2) a0 a1 a2 a3 a4 a5 a6 a7 a8 a9 _ e.f0 e.f1 else grapevineref11_Packet_section.j2 _ _ true a0 a1 a2 a3 a4 a5 a6 a7 a8 a9 _ e.f0 e.f1) = _
    have bad : ∀ q : Nat, grapevineref11_Packet_section.j2 (q + 1) i true a0 a1 a2 a3 a4 a5 a6 a7 a8 a9 (l.map to49) e.f0 e.f1 = some false := fun q => by rw [grapevineref11_Packet_section.j2.eq_2, if_pos rfl]
    have hin : inB e.f1 2 = (!decide (e.f1 < 0) && !decide (e.f1 > 2)) := by
      unfold inB
      by_cases p : 0 ≤ e.f1 <;> by_cases q : e.f1 ≤ 2 <;> simp [p, q] <;> omega
    have hok : okEntry a1 e = (idB e.f0 && !(e.f0 == a1) && inB e.f1 2) := by unfold okEntry; rw [hin]; simp only [Bool.and_assoc]
    rw [hok]
    cases h1 : idB e.f0 with
    | false => rw [if_neg (by decide), bad]; simp
    | true =>
      rw [if_pos rfl]
      by_cases h2 : e.f0 = a1
      · rw [if_pos h2, bad]
        simp [h2]
      · rw [if_neg h2]
        have h2b : (e.f0 == a1) = false := beq_eq_false_iff_ne.mpr h2
        cases h3 : inB e.f1 2 with
        | false =>
          rw [show (!false) = true from rfl, bad]
          simp
        | true =>
          rw [grapevineref11_Packet_section.j2.eq_2, if_neg (by decide)]
          have := sec_l1 a0 a1 a2 a3 a4 a5 a6 a7 a8 a9 l e.f0 e.f1 (by omega) i (by omega) i 0 m (by omega)
          rw [show (0 : Int) = ((0 : Nat) : Int) from rfl, this, List.drop_zero, hw, ih', h2b, ht]
          cases (l.take i).any (sameId e.f0) <;> simp
theorem section_f (a0 a1 a2 a3 a4 a5 a6 a7 a8 a9 : Int) (l : List S48) (hmax : l.length ≤ 9223372036854775806) : grapevineref11_Packet_section.f (l.length * (l.length + 4) + 2) a0 a1 a2 a3 a4 a5 a6 a7 a8 a9 (l.map to49) = some (secB a1 [] l && sizeB a0 l.length) := by
  unfold grapevineref11_Packet_section.f
  rw [List.length_map]
  have bad : ∀ q : Nat, grapevineref11_Packet_section.j0 (q + 1) true a0 a1 a2 a3 a4 a5 a6 a7 a8 a9 (l.map to49) = some false := fun q => by rw [grapevineref11_Packet_section.j0.eq_2, if_pos rfl]
  by_cases h0 : (l.length : Int) = 0
  · rw [if_pos h0]
    have : l = [] := List.eq_nil_of_length_eq_zero (by omega)
    subst this
    rfl
  · rw [if_neg h0]
    have hs : sizeB a0 l.length = (decide (a0 ≤ 3) && decide (l.length ≤ 3)) := by
      unfold sizeB
      rw [decide_eq_false (by omega), Bool.false_or]
    rw [hs]
    by_cases h1 : a0 > 3
    · rw [if_pos h1, bad, decide_eq_false (by omega : ¬ a0 ≤ 3)]
      simp
    · rw [if_neg h1]
      by_cases h2 : (l.length : Int) > 3
      · rw [decide_eq_true h2, bad, decide_eq_false (by omega : ¬ l.length ≤ 3)]
        simp
      · rw [decide_eq_false h2, grapevineref11_Packet_section.j0.eq_2, if_neg (by decide), show l.length * (l.length + 4) + 1 = 0 + l.length * (l.length + 4) + 1 by omega, show (0 : Int) = ((0 : Nat) : Int) from rfl, sec_l0 a0 a1 a2 a3 a4 a5 a6 a7 a8 a9 l hmax l.length 0 0 (by omega)]
        rw [decide_eq_true (by omega : a0 ≤ 3), decide_eq_true (by omega : l.length ≤ 3), List.take_zero, List.drop_zero]
        simp
theorem rsection_c (a0 a1 a2 a3 a4 a5 a6 a7 a8 a9 : Int) (A : Option Addr) (c n : Nat) (l : List S48) (hn : l.length = n) (w : World) (hr : Kd.C k49 w A n (l.map to49)) (hc : n ≤ c) (hn20 : n ≤ 20) (r : Bool) (h : (secB a1 [] l && sizeB a0 n) = r) :
    Calls Try.prog 29 #[.agg #[.int .i64 a0, .int .i64 a1, .int .i64 a2, .int .i64 a3, .int .i64 a4, .int .u64 a5, .int .i64 a6, .int .i64 a7, .int .i64 a8, .int .u64 a9, .slice A n c]] w fun e w' => e = .returned (.bool r) ∧ Below w.heap.size w w' := by
  have hl : (l.map to49).length = n := by rw [List.length_map, hn]
  have h2 := section_f a0 a1 a2 a3 a4 a5 a6 a7 a8 a9 l (by omega)
  rw [hn, h] at h2
  rw [← hl] at hr hc ⊢
  exact grapevineref11_Packet_section.calls _ a0 a1 a2 a3 a4 a5 a6 a7 a8 a9 A c (l.map to49) r w hr hc h2
theorem rid_c (n : Int) (w : World) (b : Bool) (h : idB n = b) : Calls Try.prog 27 #[.int .i64 n] w fun e w' => e = .returned (.bool b) ∧ w' = w := by
  rw [← h]
  unfold idB
  cases h : decide (1 ≤ n) with
  | false =>
    go_enter Try.func27, Try.ntmps27
    go_wp2
    go_ret
    exact ⟨rfl, rfl⟩
  | true =>
    go_enter Try.func27, Try.ntmps27
    go_wp2
    go_ret
    exact ⟨rfl, rfl⟩
theorem rin_c (n m : Int) (w : World) (b : Bool) (h : inB n m = b) : Calls Try.prog 28 #[.int .i64 n, .int .i64 m] w fun e w' => e = .returned (.bool b) ∧ w' = w := by
  rw [← h]
  unfold inB
  cases h : decide (0 ≤ n) with
  | false =>
    go_enter Try.func28, Try.ntmps28
    go_wp2
    go_ret
    exact ⟨rfl, rfl⟩
  | true =>
    go_enter Try.func28, Try.ntmps28
    go_wp2
    go_ret
    exact ⟨rfl, rfl⟩
set_option maxRecDepth 100000 in
set_option maxHeartbeats 20000000 in
theorem rright_c (a0 a1 a2 a3 a4 a5 a6 a7 a8 a9 : Int) (A : Option Addr) (c : Nat) (l : List S48) (n : Nat) (hn : l.length = n) (w : World) (hr : Kd.C k49 w A n (l.map to49)) (hc : n ≤ c) (hn20 : n ≤ 20) (h5 : 0 ≤ a5) (h9 : 0 ≤ a9) :
    Calls Try.prog 14 #[.agg #[.int .i64 a0, .int .i64 a1, .int .i64 a2, .int .i64 a3, .int .i64 a4, .int .u64 a5, .int .i64 a6, .int .i64 a7, .int .i64 a8, .int .u64 a9, .slice A n c]] w fun e w' => e = .returned (.bool (rightB a0 a1 a2 a3 a4 a5 a6 a7 a8 a9 l)) ∧ Below w.heap.size w w' := by
  have hE2 : epB a2 = inB a2 281474976710656 := rfl
  have hE6 : epB a6 = inB a6 281474976710656 := rfl
  have hE8 : epB a8 = inB a8 281474976710656 := rfl
  obtain ⟨r, hr2⟩ : ∃ r, (secB a1 [] l && sizeB a0 n) = r := ⟨_, rfl⟩
  have hsz : (secB a1 [] l && sizeB a0 l.length) = r := by rw [hn]; exact hr2
  have SC := Aside0.mk (fun W (h : Kd.C k49 W A n (l.map to49)) => rsection_c a0 a1 a2 a3 a4 a5 a6 a7 a8 a9 A c n l hn W h hc hn20 r hr2)
  have HR := Aside0.mk hr
  clear hr hr2 hn
  by_cases p1 : a0 < 1
  · have p1b : ¬ 1 ≤ a0 := by omega
    have hf : rightB a0 a1 a2 a3 a4 a5 a6 a7 a8 a9 l = false := by unfold rightB masterB aboutB; simp [p1b]
    rw [hf]
    clear hf
    clear hE2 hE6 hE8 hsz
    go_enter Try.func14, Try.ntmps14
    go_wp2_with (first
      | (go_at_call 27; ((with_reducible refine (rid_c a1 _ _ I1.out).mono ?_); rintro e w' ⟨rfl, rfl⟩))
      | (go_at_call 27; ((with_reducible refine (rid_c a4 _ _ I4.out).mono ?_); rintro e w' ⟨rfl, rfl⟩))
      | (go_at_call 27; ((with_reducible refine (rid_c a7 _ _ I7.out).mono ?_); rintro e w' ⟨rfl, rfl⟩))
      | (go_at_call 28; ((with_reducible refine (rin_c a2 281474976710656 _ _ N2.out).mono ?_); rintro e w' ⟨rfl, rfl⟩))
      | (go_at_call 28; ((with_reducible refine (rin_c a3 a2 _ _ N3.out).mono ?_); rintro e w' ⟨rfl, rfl⟩))
      | (go_at_call 28; ((with_reducible refine (rin_c a6 281474976710656 _ _ N6.out).mono ?_); rintro e w' ⟨rfl, rfl⟩))
      | (go_at_call 28; ((with_reducible refine (rin_c a8 281474976710656 _ _ N8.out).mono ?_); rintro e w' ⟨rfl, rfl⟩))
      | (go_at_call 29; go_loud ((with_reducible refine (SC.out _ (Kd.C_alloc HR.out _)).mono ?_); rintro e w2 ⟨rfl, hb⟩; have HB := Aside0.mk (below_step (below_alloc (Below.refl _ _) _) hb); clear hb)))
    go_ret
    exact ⟨rfl, below_alloc (Below.refl _ _) _⟩
  have p1b : 1 ≤ a0 := by omega
  by_cases p7 : a0 > 7
  · have p7b : ¬ a0 ≤ 7 := by omega
    have hf : rightB a0 a1 a2 a3 a4 a5 a6 a7 a8 a9 l = false := by unfold rightB masterB aboutB; simp [p7b]
    rw [hf]
    clear hf
    clear hE2 hE6 hE8 hsz
    go_enter Try.func14, Try.ntmps14
    go_wp2_with (first
      | (go_at_call 27; ((with_reducible refine (rid_c a1 _ _ I1.out).mono ?_); rintro e w' ⟨rfl, rfl⟩))
      | (go_at_call 27; ((with_reducible refine (rid_c a4 _ _ I4.out).mono ?_); rintro e w' ⟨rfl, rfl⟩))
      | (go_at_call 27; ((with_reducible refine (rid_c a7 _ _ I7.out).mono ?_); rintro e w' ⟨rfl, rfl⟩))
      | (go_at_call 28; ((with_reducible refine (rin_c a2 281474976710656 _ _ N2.out).mono ?_); rintro e w' ⟨rfl, rfl⟩))
      | (go_at_call 28; ((with_reducible refine (rin_c a3 a2 _ _ N3.out).mono ?_); rintro e w' ⟨rfl, rfl⟩))
      | (go_at_call 28; ((with_reducible refine (rin_c a6 281474976710656 _ _ N6.out).mono ?_); rintro e w' ⟨rfl, rfl⟩))
      | (go_at_call 28; ((with_reducible refine (rin_c a8 281474976710656 _ _ N8.out).mono ?_); rintro e w' ⟨rfl, rfl⟩))
      | (go_at_call 29; go_loud ((with_reducible refine (SC.out _ (Kd.C_alloc HR.out _)).mono ?_); rintro e w2 ⟨rfl, hb⟩; have HB := Aside0.mk (below_step (below_alloc (Below.refl _ _) _) hb); clear hb)))
    go_ret
    exact ⟨rfl, below_alloc (Below.refl _ _) _⟩
  have p7b : a0 ≤ 7 := by omega
  cases i1 : idB a1 with
  | false =>
    have I1 := Aside0.mk i1
    have hf : rightB a0 a1 a2 a3 a4 a5 a6 a7 a8 a9 l = false := by unfold rightB masterB aboutB; simp [p1b, p7b, i1]
    rw [hf]
    clear hf
    clear hE2 hE6 hE8 hsz
    go_enter Try.func14, Try.ntmps14
    go_wp2_with (first
      | (go_at_call 27; ((with_reducible refine (rid_c a1 _ _ I1.out).mono ?_); rintro e w' ⟨rfl, rfl⟩))
      | (go_at_call 27; ((with_reducible refine (rid_c a4 _ _ I4.out).mono ?_); rintro e w' ⟨rfl, rfl⟩))
      | (go_at_call 27; ((with_reducible refine (rid_c a7 _ _ I7.out).mono ?_); rintro e w' ⟨rfl, rfl⟩))
      | (go_at_call 28; ((with_reducible refine (rin_c a2 281474976710656 _ _ N2.out).mono ?_); rintro e w' ⟨rfl, rfl⟩))
      | (go_at_call 28; ((with_reducible refine (rin_c a3 a2 _ _ N3.out).mono ?_); rintro e w' ⟨rfl, rfl⟩))
      | (go_at_call 28; ((with_reducible refine (rin_c a6 281474976710656 _ _ N6.out).mono ?_); rintro e w' ⟨rfl, rfl⟩))
      | (go_at_call 28; ((with_reducible refine (rin_c a8 281474976710656 _ _ N8.out).mono ?_); rintro e w' ⟨rfl, rfl⟩))
      | (go_at_call 29; go_loud ((with_reducible refine (SC.out _ (Kd.C_alloc HR.out _)).mono ?_); rintro e w2 ⟨rfl, hb⟩; have HB := Aside0.mk (below_step (below_alloc (Below.refl _ _) _) hb); clear hb)))
    go_ret
    exact ⟨rfl, below_alloc (Below.refl _ _) _⟩
  | true =>
    have I1 := Aside0.mk i1
    cases n2 : inB a2 281474976710656 with
    | false =>
      have N2 := Aside0.mk n2
      have n2c : epB a2 = false := n2
      have hf : rightB a0 a1 a2 a3 a4 a5 a6 a7 a8 a9 l = false := by unfold rightB masterB aboutB; simp [p1b, p7b, i1, n2c]
      rw [hf]
      clear hf
      clear hE2 hE6 hE8 hsz
      go_enter Try.func14, Try.ntmps14
      go_wp2_with (first
        | (go_at_call 27; ((with_reducible refine (rid_c a1 _ _ I1.out).mono ?_); rintro e w' ⟨rfl, rfl⟩))
        | (go_at_call 27; ((with_reducible refine (rid_c a4 _ _ I4.out).mono ?_); rintro e w' ⟨rfl, rfl⟩))
        | (go_at_call 27; ((with_reducible refine (rid_c a7 _ _ I7.out).mono ?_); rintro e w' ⟨rfl, rfl⟩))
        | (go_at_call 28; ((with_reducible refine (rin_c a2 281474976710656 _ _ N2.out).mono ?_); rintro e w' ⟨rfl, rfl⟩))
        | (go_at_call 28; ((with_reducible refine (rin_c a3 a2 _ _ N3.out).mono ?_); rintro e w' ⟨rfl, rfl⟩))
        | (go_at_call 28; ((with_reducible refine (rin_c a6 281474976710656 _ _ N6.out).mono ?_); rintro e w' ⟨rfl, rfl⟩))
        | (go_at_call 28; ((with_reducible refine (rin_c a8 281474976710656 _ _ N8.out).mono ?_); rintro e w' ⟨rfl, rfl⟩))
        | (go_at_call 29; go_loud ((with_reducible refine (SC.out _ (Kd.C_alloc HR.out _)).mono ?_); rintro e w2 ⟨rfl, hb⟩; have HB := Aside0.mk (below_step (below_alloc (Below.refl _ _) _) hb); clear hb)))
      go_ret
      exact ⟨rfl, below_alloc (Below.refl _ _) _⟩
    | true =>
      have N2 := Aside0.mk n2
      have n2c : epB a2 = true := n2
      cases n3 : inB a3 a2 with
      | false =>
        have N3 := Aside0.mk n3
        have n3c := n3
        unfold inB at n3c
        have hf : rightB a0 a1 a2 a3 a4 a5 a6 a7 a8 a9 l = false := by
          have n3d : ¬ 0 ≤ a3 ∨ ¬ a3 ≤ a2 := by
            simp only [Bool.and_eq_false_iff, decide_eq_false_iff_not] at n3c
            exact n3c
          unfold rightB
          rcases n3d with h | h <;> simp [h]
        clear n3c
        rw [hf]
        clear hf
        clear hE2 hE6 hE8 hsz
        go_enter Try.func14, Try.ntmps14
        go_wp2_with (first
          | (go_at_call 27; ((with_reducible refine (rid_c a1 _ _ I1.out).mono ?_); rintro e w' ⟨rfl, rfl⟩))
          | (go_at_call 27; ((with_reducible refine (rid_c a4 _ _ I4.out).mono ?_); rintro e w' ⟨rfl, rfl⟩))
          | (go_at_call 27; ((with_reducible refine (rid_c a7 _ _ I7.out).mono ?_); rintro e w' ⟨rfl, rfl⟩))
          | (go_at_call 28; ((with_reducible refine (rin_c a2 281474976710656 _ _ N2.out).mono ?_); rintro e w' ⟨rfl, rfl⟩))
          | (go_at_call 28; ((with_reducible refine (rin_c a3 a2 _ _ N3.out).mono ?_); rintro e w' ⟨rfl, rfl⟩))
          | (go_at_call 28; ((with_reducible refine (rin_c a6 281474976710656 _ _ N6.out).mono ?_); rintro e w' ⟨rfl, rfl⟩))
          | (go_at_call 28; ((with_reducible refine (rin_c a8 281474976710656 _ _ N8.out).mono ?_); rintro e w' ⟨rfl, rfl⟩))
          | (go_at_call 29; go_loud ((with_reducible refine (SC.out _ (Kd.C_alloc HR.out _)).mono ?_); rintro e w2 ⟨rfl, hb⟩; have HB := Aside0.mk (below_step (below_alloc (Below.refl _ _) _) hb); clear hb)))
        go_ret
        exact ⟨rfl, below_alloc (Below.refl _ _) _⟩
      | true =>
        have N3 := Aside0.mk n3
        have n3c := n3
        unfold inB at n3c
        simp only [Bool.and_eq_true, decide_eq_true_eq] at n3c
        obtain ⟨n3x, n3y⟩ := n3c
        cases n6 : inB a6 281474976710656 with
        | false =>
          have N6 := Aside0.mk n6
          have n6c : epB a6 = false := n6
          have hf : rightB a0 a1 a2 a3 a4 a5 a6 a7 a8 a9 l = false := by unfold rightB masterB aboutB; simp [p1b, p7b, i1, n2c, n3x, n3y, n6c]
          rw [hf]
          clear hf
          clear hE2 hE6 hE8 hsz
          go_enter Try.func14, Try.ntmps14
          go_wp2_with (first
            | (go_at_call 27; ((with_reducible refine (rid_c a1 _ _ I1.out).mono ?_); rintro e w' ⟨rfl, rfl⟩))
            | (go_at_call 27; ((with_reducible refine (rid_c a4 _ _ I4.out).mono ?_); rintro e w' ⟨rfl, rfl⟩))
            | (go_at_call 27; ((with_reducible refine (rid_c a7 _ _ I7.out).mono ?_); rintro e w' ⟨rfl, rfl⟩))
            | (go_at_call 28; ((with_reducible refine (rin_c a2 281474976710656 _ _ N2.out).mono ?_); rintro e w' ⟨rfl, rfl⟩))
            | (go_at_call 28; ((with_reducible refine (rin_c a3 a2 _ _ N3.out).mono ?_); rintro e w' ⟨rfl, rfl⟩))
            | (go_at_call 28; ((with_reducible refine (rin_c a6 281474976710656 _ _ N6.out).mono ?_); rintro e w' ⟨rfl, rfl⟩))
            | (go_at_call 28; ((with_reducible refine (rin_c a8 281474976710656 _ _ N8.out).mono ?_); rintro e w' ⟨rfl, rfl⟩))
            | (go_at_call 29; go_loud ((with_reducible refine (SC.out _ (Kd.C_alloc HR.out _)).mono ?_); rintro e w2 ⟨rfl, hb⟩; have HB := Aside0.mk (below_step (below_alloc (Below.refl _ _) _) hb); clear hb)))
          go_ret
          exact ⟨rfl, below_alloc (Below.refl _ _) _⟩
        | true =>
          have N6 := Aside0.mk n6
          have n6c : epB a6 = true := n6
          by_cases q4 : a4 = 0
          · have q4b : (a4 != 0) = false := bne_eq_false_iff_eq.mpr q4
            have Q4 := Aside0.mk q4
            clear q4
            by_cases r4 : a0 = 4
            · have r4b : (a0 == 4) = true := beq_iff_eq.mpr r4
              have r5c : (a0 != 5) = true := bne_iff_ne.mpr (by omega)
              have r5d : (a0 == 5) = false := beq_eq_false_iff_ne.mpr (by omega)
              have R4 := Aside0.mk r4
              clear r4
              by_cases s7 : a7 = 0
              · have s7b : (a7 != 0) = false := bne_eq_false_iff_eq.mpr s7
                have S7 := Aside0.mk s7
                clear s7
                have i70 : idB 0 = false := by decide
                have hf : rightB a0 a1 a2 a3 a4 a5 a6 a7 a8 a9 l = false := by unfold rightB masterB aboutB; simp [p1b, p7b, i1, n2c, n3x, n3y, n6c, Q4.out, R4.out, S7.out, i70]
                rw [hf]
                clear hf
                clear hE2 hE6 hE8 hsz
                go_enter Try.func14, Try.ntmps14
                go_wp2_with (first
                  | (go_at_call 27; ((with_reducible refine (rid_c a1 _ _ I1.out).mono ?_); rintro e w' ⟨rfl, rfl⟩))
                  | (go_at_call 27; ((with_reducible refine (rid_c a4 _ _ I4.out).mono ?_); rintro e w' ⟨rfl, rfl⟩))
                  | (go_at_call 27; ((with_reducible refine (rid_c a7 _ _ I7.out).mono ?_); rintro e w' ⟨rfl, rfl⟩))
                  | (go_at_call 28; ((with_reducible refine (rin_c a2 281474976710656 _ _ N2.out).mono ?_); rintro e w' ⟨rfl, rfl⟩))
                  | (go_at_call 28; ((with_reducible refine (rin_c a3 a2 _ _ N3.out).mono ?_); rintro e w' ⟨rfl, rfl⟩))
                  | (go_at_call 28; ((with_reducible refine (rin_c a6 281474976710656 _ _ N6.out).mono ?_); rintro e w' ⟨rfl, rfl⟩))
                  | (go_at_call 28; ((with_reducible refine (rin_c a8 281474976710656 _ _ N8.out).mono ?_); rintro e w' ⟨rfl, rfl⟩))
                  | (go_at_call 29; go_loud ((with_reducible refine (SC.out _ (Kd.C_alloc HR.out _)).mono ?_); rintro e w2 ⟨rfl, hb⟩; have HB := Aside0.mk (below_step (below_alloc (Below.refl _ _) _) hb); clear hb)))
                go_ret
                exact ⟨rfl, below_alloc (Below.refl _ _) _⟩
              have s7b : (a7 != 0) = true := bne_iff_ne.mpr s7
              cases i7 : idB a7 with
              | false =>
                have I7 := Aside0.mk i7
                have hf : rightB a0 a1 a2 a3 a4 a5 a6 a7 a8 a9 l = false := by unfold rightB masterB aboutB; simp [p1b, p7b, i1, n2c, n3x, n3y, n6c, Q4.out, R4.out, i7]
                rw [hf]
                clear hf
                clear hE2 hE6 hE8 hsz
                go_enter Try.func14, Try.ntmps14
                go_wp2_with (first
                  | (go_at_call 27; ((with_reducible refine (rid_c a1 _ _ I1.out).mono ?_); rintro e w' ⟨rfl, rfl⟩))
                  | (go_at_call 27; ((with_reducible refine (rid_c a4 _ _ I4.out).mono ?_); rintro e w' ⟨rfl, rfl⟩))
                  | (go_at_call 27; ((with_reducible refine (rid_c a7 _ _ I7.out).mono ?_); rintro e w' ⟨rfl, rfl⟩))
                  | (go_at_call 28; ((with_reducible refine (rin_c a2 281474976710656 _ _ N2.out).mono ?_); rintro e w' ⟨rfl, rfl⟩))
                  | (go_at_call 28; ((with_reducible refine (rin_c a3 a2 _ _ N3.out).mono ?_); rintro e w' ⟨rfl, rfl⟩))
                  | (go_at_call 28; ((with_reducible refine (rin_c a6 281474976710656 _ _ N6.out).mono ?_); rintro e w' ⟨rfl, rfl⟩))
                  | (go_at_call 28; ((with_reducible refine (rin_c a8 281474976710656 _ _ N8.out).mono ?_); rintro e w' ⟨rfl, rfl⟩))
                  | (go_at_call 29; go_loud ((with_reducible refine (SC.out _ (Kd.C_alloc HR.out _)).mono ?_); rintro e w2 ⟨rfl, hb⟩; have HB := Aside0.mk (below_step (below_alloc (Below.refl _ _) _) hb); clear hb)))
                go_ret
                exact ⟨rfl, below_alloc (Below.refl _ _) _⟩
              | true =>
                have I7 := Aside0.mk i7
                by_cases t8 : a8 = 0
                rotate_left
                · have t8b : (a8 != 0) = true := bne_iff_ne.mpr t8
                  have hf : rightB a0 a1 a2 a3 a4 a5 a6 a7 a8 a9 l = false := by unfold rightB masterB aboutB; simp [p1b, p7b, i1, n2c, n3x, n3y, n6c, Q4.out, R4.out, i7, t8]
                  rw [hf]
                  clear hf
                  clear hE2 hE6 hE8 hsz
                  go_enter Try.func14, Try.ntmps14
                  go_wp2_with (first
                    | (go_at_call 27; ((with_reducible refine (rid_c a1 _ _ I1.out).mono ?_); rintro e w' ⟨rfl, rfl⟩))
                    | (go_at_call 27; ((with_reducible refine (rid_c a4 _ _ I4.out).mono ?_); rintro e w' ⟨rfl, rfl⟩))
                    | (go_at_call 27; ((with_reducible refine (rid_c a7 _ _ I7.out).mono ?_); rintro e w' ⟨rfl, rfl⟩))
                    | (go_at_call 28; ((with_reducible refine (rin_c a2 281474976710656 _ _ N2.out).mono ?_); rintro e w' ⟨rfl, rfl⟩))
                    | (go_at_call 28; ((with_reducible refine (rin_c a3 a2 _ _ N3.out).mono ?_); rintro e w' ⟨rfl, rfl⟩))
                    | (go_at_call 28; ((with_reducible refine (rin_c a6 281474976710656 _ _ N6.out).mono ?_); rintro e w' ⟨rfl, rfl⟩))
                    | (go_at_call 28; ((with_reducible refine (rin_c a8 281474976710656 _ _ N8.out).mono ?_); rintro e w' ⟨rfl, rfl⟩))
                    | (go_at_call 29; go_loud ((with_reducible refine (SC.out _ (Kd.C_alloc HR.out _)).mono ?_); rintro e w2 ⟨rfl, hb⟩; have HB := Aside0.mk (below_step (below_alloc (Below.refl _ _) _) hb); clear hb)))
                  go_ret
                  exact ⟨rfl, below_alloc (Below.refl _ _) _⟩
                have t8b : (a8 != 0) = false := bne_eq_false_iff_eq.mpr t8
                have T8 := Aside0.mk t8
                clear t8
                by_cases t9 : a9 = 0
                rotate_left
                · have t9b : a9 > 0 := by omega
                  have hf : rightB a0 a1 a2 a3 a4 a5 a6 a7 a8 a9 l = false := by unfold rightB masterB aboutB; simp [p1b, p7b, i1, n2c, n3x, n3y, n6c, Q4.out, R4.out, i7, T8.out, t9]
                  rw [hf]
                  clear hf
                  clear hE2 hE6 hE8 hsz
                  go_enter Try.func14, Try.ntmps14
                  go_wp2_with (first
                    | (go_at_call 27; ((with_reducible refine (rid_c a1 _ _ I1.out).mono ?_); rintro e w' ⟨rfl, rfl⟩))
                    | (go_at_call 27; ((with_reducible refine (rid_c a4 _ _ I4.out).mono ?_); rintro e w' ⟨rfl, rfl⟩))
                    | (go_at_call 27; ((with_reducible refine (rid_c a7 _ _ I7.out).mono ?_); rintro e w' ⟨rfl, rfl⟩))
                    | (go_at_call 28; ((with_reducible refine (rin_c a2 281474976710656 _ _ N2.out).mono ?_); rintro e w' ⟨rfl, rfl⟩))
                    | (go_at_call 28; ((with_reducible refine (rin_c a3 a2 _ _ N3.out).mono ?_); rintro e w' ⟨rfl, rfl⟩))
                    | (go_at_call 28; ((with_reducible refine (rin_c a6 281474976710656 _ _ N6.out).mono ?_); rintro e w' ⟨rfl, rfl⟩))
                    | (go_at_call 28; ((with_reducible refine (rin_c a8 281474976710656 _ _ N8.out).mono ?_); rintro e w' ⟨rfl, rfl⟩))
                    | (go_at_call 29; go_loud ((with_reducible refine (SC.out _ (Kd.C_alloc HR.out _)).mono ?_); rintro e w2 ⟨rfl, hb⟩; have HB := Aside0.mk (below_step (below_alloc (Below.refl _ _) _) hb); clear hb)))
                  go_ret
                  exact ⟨rfl, below_alloc (Below.refl _ _) _⟩
                · have t9b : ¬ a9 > 0 := by omega
                  have T9 := Aside0.mk t9
                  clear t9
                  have hf : rightB a0 a1 a2 a3 a4 a5 a6 a7 a8 a9 l = (secB a1 [] l && sizeB a0 l.length) := by unfold rightB masterB aboutB; simp [p1b, p7b, i1, n2c, n3x, n3y, n6c, Q4.out, R4.out, i7, T8.out, T9.out]
                  rw [hf, hsz]
                  clear hf
                  clear hE2 hE6 hE8 hsz
                  go_enter Try.func14, Try.ntmps14
                  go_wp2_with (first
                    | (go_at_call 27; ((with_reducible refine (rid_c a1 _ _ I1.out).mono ?_); rintro e w' ⟨rfl, rfl⟩))
                    | (go_at_call 27; ((with_reducible refine (rid_c a4 _ _ I4.out).mono ?_); rintro e w' ⟨rfl, rfl⟩))
                    | (go_at_call 27; ((with_reducible refine (rid_c a7 _ _ I7.out).mono ?_); rintro e w' ⟨rfl, rfl⟩))
                    | (go_at_call 28; ((with_reducible refine (rin_c a2 281474976710656 _ _ N2.out).mono ?_); rintro e w' ⟨rfl, rfl⟩))
                    | (go_at_call 28; ((with_reducible refine (rin_c a3 a2 _ _ N3.out).mono ?_); rintro e w' ⟨rfl, rfl⟩))
                    | (go_at_call 28; ((with_reducible refine (rin_c a6 281474976710656 _ _ N6.out).mono ?_); rintro e w' ⟨rfl, rfl⟩))
                    | (go_at_call 28; ((with_reducible refine (rin_c a8 281474976710656 _ _ N8.out).mono ?_); rintro e w' ⟨rfl, rfl⟩))
                    | (go_at_call 29; go_loud ((with_reducible refine (SC.out _ (Kd.C_alloc HR.out _)).mono ?_); rintro e w2 ⟨rfl, hb⟩; have HB := Aside0.mk (below_step (below_alloc (Below.refl _ _) _) hb); clear hb)))
                  go_ret
                  exact ⟨rfl, HB.out⟩
            have r4b : (a0 == 4) = false := beq_eq_false_iff_ne.mpr r4
            by_cases r5 : a0 = 5
            · have r5b : (a0 == 5) = true := beq_iff_eq.mpr r5
              have r5c : (a0 != 5) = false := bne_eq_false_iff_eq.mpr r5
              have R5 := Aside0.mk r5
              clear r5
              by_cases s7 : a7 = 0
              · have s7b : (a7 != 0) = false := bne_eq_false_iff_eq.mpr s7
                have S7 := Aside0.mk s7
                clear s7
                have i70 : idB 0 = false := by decide
                have hf : rightB a0 a1 a2 a3 a4 a5 a6 a7 a8 a9 l = false := by unfold rightB masterB aboutB; simp [p1b, p7b, i1, n2c, n3x, n3y, n6c, Q4.out, R5.out, S7.out, i70]
                rw [hf]
                clear hf
                clear hE2 hE6 hE8 hsz
                go_enter Try.func14, Try.ntmps14
                go_wp2_with (first
                  | (go_at_call 27; ((with_reducible refine (rid_c a1 _ _ I1.out).mono ?_); rintro e w' ⟨rfl, rfl⟩))
                  | (go_at_call 27; ((with_reducible refine (rid_c a4 _ _ I4.out).mono ?_); rintro e w' ⟨rfl, rfl⟩))
                  | (go_at_call 27; ((with_reducible refine (rid_c a7 _ _ I7.out).mono ?_); rintro e w' ⟨rfl, rfl⟩))
                  | (go_at_call 28; ((with_reducible refine (rin_c a2 281474976710656 _ _ N2.out).mono ?_); rintro e w' ⟨rfl, rfl⟩))
                  | (go_at_call 28; ((with_reducible refine (rin_c a3 a2 _ _ N3.out).mono ?_); rintro e w' ⟨rfl, rfl⟩))
                  | (go_at_call 28; ((with_reducible refine (rin_c a6 281474976710656 _ _ N6.out).mono ?_); rintro e w' ⟨rfl, rfl⟩))
                  | (go_at_call 28; ((with_reducible refine (rin_c a8 281474976710656 _ _ N8.out).mono ?_); rintro e w' ⟨rfl, rfl⟩))
                  | (go_at_call 29; go_loud ((with_reducible refine (SC.out _ (Kd.C_alloc HR.out _)).mono ?_); rintro e w2 ⟨rfl, hb⟩; have HB := Aside0.mk (below_step (below_alloc (Below.refl _ _) _) hb); clear hb)))
                go_ret
                exact ⟨rfl, below_alloc (Below.refl _ _) _⟩
              have s7b : (a7 != 0) = true := bne_iff_ne.mpr s7
              cases i7 : idB a7 with
              | false =>
                have I7 := Aside0.mk i7
                have hf : rightB a0 a1 a2 a3 a4 a5 a6 a7 a8 a9 l = false := by unfold rightB masterB aboutB; simp [p1b, p7b, i1, n2c, n3x, n3y, n6c, Q4.out, R5.out, i7]
                rw [hf]
                clear hf
                clear hE2 hE6 hE8 hsz
                go_enter Try.func14, Try.ntmps14
                go_wp2_with (first
                  | (go_at_call 27; ((with_reducible refine (rid_c a1 _ _ I1.out).mono ?_); rintro e w' ⟨rfl, rfl⟩))
                  | (go_at_call 27; ((with_reducible refine (rid_c a4 _ _ I4.out).mono ?_); rintro e w' ⟨rfl, rfl⟩))
                  | (go_at_call 27; ((with_reducible refine (rid_c a7 _ _ I7.out).mono ?_); rintro e w' ⟨rfl, rfl⟩))
                  | (go_at_call 28; ((with_reducible refine (rin_c a2 281474976710656 _ _ N2.out).mono ?_); rintro e w' ⟨rfl, rfl⟩))
                  | (go_at_call 28; ((with_reducible refine (rin_c a3 a2 _ _ N3.out).mono ?_); rintro e w' ⟨rfl, rfl⟩))
                  | (go_at_call 28; ((with_reducible refine (rin_c a6 281474976710656 _ _ N6.out).mono ?_); rintro e w' ⟨rfl, rfl⟩))
                  | (go_at_call 28; ((with_reducible refine (rin_c a8 281474976710656 _ _ N8.out).mono ?_); rintro e w' ⟨rfl, rfl⟩))
                  | (go_at_call 29; go_loud ((with_reducible refine (SC.out _ (Kd.C_alloc HR.out _)).mono ?_); rintro e w2 ⟨rfl, hb⟩; have HB := Aside0.mk (below_step (below_alloc (Below.refl _ _) _) hb); clear hb)))
                go_ret
                exact ⟨rfl, below_alloc (Below.refl _ _) _⟩
              | true =>
                have I7 := Aside0.mk i7
                cases n8 : inB a8 281474976710656 with
                | false =>
                  have N8 := Aside0.mk n8
                  have n8c : epB a8 = false := n8
                  have hf : rightB a0 a1 a2 a3 a4 a5 a6 a7 a8 a9 l = false := by unfold rightB masterB aboutB; simp [p1b, p7b, i1, n2c, n3x, n3y, n6c, Q4.out, R5.out, i7, n8c]
                  rw [hf]
                  clear hf
                  clear hE2 hE6 hE8 hsz
                  go_enter Try.func14, Try.ntmps14
                  go_wp2_with (first
                    | (go_at_call 27; ((with_reducible refine (rid_c a1 _ _ I1.out).mono ?_); rintro e w' ⟨rfl, rfl⟩))
                    | (go_at_call 27; ((with_reducible refine (rid_c a4 _ _ I4.out).mono ?_); rintro e w' ⟨rfl, rfl⟩))
                    | (go_at_call 27; ((with_reducible refine (rid_c a7 _ _ I7.out).mono ?_); rintro e w' ⟨rfl, rfl⟩))
                    | (go_at_call 28; ((with_reducible refine (rin_c a2 281474976710656 _ _ N2.out).mono ?_); rintro e w' ⟨rfl, rfl⟩))
                    | (go_at_call 28; ((with_reducible refine (rin_c a3 a2 _ _ N3.out).mono ?_); rintro e w' ⟨rfl, rfl⟩))
                    | (go_at_call 28; ((with_reducible refine (rin_c a6 281474976710656 _ _ N6.out).mono ?_); rintro e w' ⟨rfl, rfl⟩))
                    | (go_at_call 28; ((with_reducible refine (rin_c a8 281474976710656 _ _ N8.out).mono ?_); rintro e w' ⟨rfl, rfl⟩))
                    | (go_at_call 29; go_loud ((with_reducible refine (SC.out _ (Kd.C_alloc HR.out _)).mono ?_); rintro e w2 ⟨rfl, hb⟩; have HB := Aside0.mk (below_step (below_alloc (Below.refl _ _) _) hb); clear hb)))
                  go_ret
                  exact ⟨rfl, below_alloc (Below.refl _ _) _⟩
                | true =>
                  have N8 := Aside0.mk n8
                  have n8c : epB a8 = true := n8
                  have hf : rightB a0 a1 a2 a3 a4 a5 a6 a7 a8 a9 l = (secB a1 [] l && sizeB a0 l.length) := by unfold rightB masterB aboutB; simp [p1b, p7b, i1, n2c, n3x, n3y, n6c, Q4.out, R5.out, i7, n8c]
                  rw [hf, hsz]
                  clear hf
                  clear hE2 hE6 hE8 hsz
                  go_enter Try.func14, Try.ntmps14
                  go_wp2_with (first
                    | (go_at_call 27; ((with_reducible refine (rid_c a1 _ _ I1.out).mono ?_); rintro e w' ⟨rfl, rfl⟩))
                    | (go_at_call 27; ((with_reducible refine (rid_c a4 _ _ I4.out).mono ?_); rintro e w' ⟨rfl, rfl⟩))
                    | (go_at_call 27; ((with_reducible refine (rid_c a7 _ _ I7.out).mono ?_); rintro e w' ⟨rfl, rfl⟩))
                    | (go_at_call 28; ((with_reducible refine (rin_c a2 281474976710656 _ _ N2.out).mono ?_); rintro e w' ⟨rfl, rfl⟩))
                    | (go_at_call 28; ((with_reducible refine (rin_c a3 a2 _ _ N3.out).mono ?_); rintro e w' ⟨rfl, rfl⟩))
                    | (go_at_call 28; ((with_reducible refine (rin_c a6 281474976710656 _ _ N6.out).mono ?_); rintro e w' ⟨rfl, rfl⟩))
                    | (go_at_call 28; ((with_reducible refine (rin_c a8 281474976710656 _ _ N8.out).mono ?_); rintro e w' ⟨rfl, rfl⟩))
                    | (go_at_call 29; go_loud ((with_reducible refine (SC.out _ (Kd.C_alloc HR.out _)).mono ?_); rintro e w2 ⟨rfl, hb⟩; have HB := Aside0.mk (below_step (below_alloc (Below.refl _ _) _) hb); clear hb)))
                  go_ret
                  exact ⟨rfl, HB.out⟩
            have r5b : (a0 == 5) = false := beq_eq_false_iff_ne.mpr r5
            have r5c : (a0 != 5) = true := bne_iff_ne.mpr r5
            by_cases s7 : a7 = 0
            rotate_left
            · have s7b : (a7 != 0) = true := bne_iff_ne.mpr s7
              have hf : rightB a0 a1 a2 a3 a4 a5 a6 a7 a8 a9 l = false := by unfold rightB masterB aboutB; simp [p1b, p7b, i1, n2c, n3x, n3y, n6c, Q4.out, r4, r5, s7]
              rw [hf]
              clear hf
              clear hE2 hE6 hE8 hsz
              go_enter Try.func14, Try.ntmps14
              go_wp2_with (first
                | (go_at_call 27; ((with_reducible refine (rid_c a1 _ _ I1.out).mono ?_); rintro e w' ⟨rfl, rfl⟩))
                | (go_at_call 27; ((with_reducible refine (rid_c a4 _ _ I4.out).mono ?_); rintro e w' ⟨rfl, rfl⟩))
                | (go_at_call 27; ((with_reducible refine (rid_c a7 _ _ I7.out).mono ?_); rintro e w' ⟨rfl, rfl⟩))
                | (go_at_call 28; ((with_reducible refine (rin_c a2 281474976710656 _ _ N2.out).mono ?_); rintro e w' ⟨rfl, rfl⟩))
                | (go_at_call 28; ((with_reducible refine (rin_c a3 a2 _ _ N3.out).mono ?_); rintro e w' ⟨rfl, rfl⟩))
                | (go_at_call 28; ((with_reducible refine (rin_c a6 281474976710656 _ _ N6.out).mono ?_); rintro e w' ⟨rfl, rfl⟩))
                | (go_at_call 28; ((with_reducible refine (rin_c a8 281474976710656 _ _ N8.out).mono ?_); rintro e w' ⟨rfl, rfl⟩))
                | (go_at_call 29; go_loud ((with_reducible refine (SC.out _ (Kd.C_alloc HR.out _)).mono ?_); rintro e w2 ⟨rfl, hb⟩; have HB := Aside0.mk (below_step (below_alloc (Below.refl _ _) _) hb); clear hb)))
              go_ret
              exact ⟨rfl, below_alloc (Below.refl _ _) _⟩
            · have s7b : (a7 != 0) = false := bne_eq_false_iff_eq.mpr s7
              have S7 := Aside0.mk s7
              clear s7
              by_cases t8 : a8 = 0
              rotate_left
              · have t8b : (a8 != 0) = true := bne_iff_ne.mpr t8
                have hf : rightB a0 a1 a2 a3 a4 a5 a6 a7 a8 a9 l = false := by unfold rightB masterB aboutB; simp [p1b, p7b, i1, n2c, n3x, n3y, n6c, Q4.out, r4, r5, S7.out, t8]
                rw [hf]
                clear hf
                clear hE2 hE6 hE8 hsz
                go_enter Try.func14, Try.ntmps14
                go_wp2_with (first
                  | (go_at_call 27; ((with_reducible refine (rid_c a1 _ _ I1.out).mono ?_); rintro e w' ⟨rfl, rfl⟩))
                  | (go_at_call 27; ((with_reducible refine (rid_c a4 _ _ I4.out).mono ?_); rintro e w' ⟨rfl, rfl⟩))
                  | (go_at_call 27; ((with_reducible refine (rid_c a7 _ _ I7.out).mono ?_); rintro e w' ⟨rfl, rfl⟩))
                  | (go_at_call 28; ((with_reducible refine (rin_c a2 281474976710656 _ _ N2.out).mono ?_); rintro e w' ⟨rfl, rfl⟩))
                  | (go_at_call 28; ((with_reducible refine (rin_c a3 a2 _ _ N3.out).mono ?_); rintro e w' ⟨rfl, rfl⟩))
                  | (go_at_call 28; ((with_reducible refine (rin_c a6 281474976710656 _ _ N6.out).mono ?_); rintro e w' ⟨rfl, rfl⟩))
                  | (go_at_call 28; ((with_reducible refine (rin_c a8 281474976710656 _ _ N8.out).mono ?_); rintro e w' ⟨rfl, rfl⟩))
                  | (go_at_call 29; go_loud ((with_reducible refine (SC.out _ (Kd.C_alloc HR.out _)).mono ?_); rintro e w2 ⟨rfl, hb⟩; have HB := Aside0.mk (below_step (below_alloc (Below.refl _ _) _) hb); clear hb)))
                go_ret
                exact ⟨rfl, below_alloc (Below.refl _ _) _⟩
              have t8b : (a8 != 0) = false := bne_eq_false_iff_eq.mpr t8
              have T8 := Aside0.mk t8
              clear t8
              by_cases t9 : a9 = 0
              rotate_left
              · have t9b : a9 > 0 := by omega
                have hf : rightB a0 a1 a2 a3 a4 a5 a6 a7 a8 a9 l = false := by unfold rightB masterB aboutB; simp [p1b, p7b, i1, n2c, n3x, n3y, n6c, Q4.out, r4, r5, S7.out, T8.out, t9]
                rw [hf]
                clear hf
                clear hE2 hE6 hE8 hsz
                go_enter Try.func14, Try.ntmps14
                go_wp2_with (first
                  | (go_at_call 27; ((with_reducible refine (rid_c a1 _ _ I1.out).mono ?_); rintro e w' ⟨rfl, rfl⟩))
                  | (go_at_call 27; ((with_reducible refine (rid_c a4 _ _ I4.out).mono ?_); rintro e w' ⟨rfl, rfl⟩))
                  | (go_at_call 27; ((with_reducible refine (rid_c a7 _ _ I7.out).mono ?_); rintro e w' ⟨rfl, rfl⟩))
                  | (go_at_call 28; ((with_reducible refine (rin_c a2 281474976710656 _ _ N2.out).mono ?_); rintro e w' ⟨rfl, rfl⟩))
                  | (go_at_call 28; ((with_reducible refine (rin_c a3 a2 _ _ N3.out).mono ?_); rintro e w' ⟨rfl, rfl⟩))
                  | (go_at_call 28; ((with_reducible refine (rin_c a6 281474976710656 _ _ N6.out).mono ?_); rintro e w' ⟨rfl, rfl⟩))
                  | (go_at_call 28; ((with_reducible refine (rin_c a8 281474976710656 _ _ N8.out).mono ?_); rintro e w' ⟨rfl, rfl⟩))
                  | (go_at_call 29; go_loud ((with_reducible refine (SC.out _ (Kd.C_alloc HR.out _)).mono ?_); rintro e w2 ⟨rfl, hb⟩; have HB := Aside0.mk (below_step (below_alloc (Below.refl _ _) _) hb); clear hb)))
                go_ret
                exact ⟨rfl, below_alloc (Below.refl _ _) _⟩
              · have t9b : ¬ a9 > 0 := by omega
                have T9 := Aside0.mk t9
                clear t9
                have hf : rightB a0 a1 a2 a3 a4 a5 a6 a7 a8 a9 l = (secB a1 [] l && sizeB a0 l.length) := by unfold rightB masterB aboutB; simp [p1b, p7b, i1, n2c, n3x, n3y, n6c, Q4.out, r4, r5, S7.out, T8.out, T9.out]
                rw [hf, hsz]
                clear hf
                clear hE2 hE6 hE8 hsz
                go_enter Try.func14, Try.ntmps14
                go_wp2_with (first
                  | (go_at_call 27; ((with_reducible refine (rid_c a1 _ _ I1.out).mono ?_); rintro e w' ⟨rfl, rfl⟩))
                  | (go_at_call 27; ((with_reducible refine (rid_c a4 _ _ I4.out).mono ?_); rintro e w' ⟨rfl, rfl⟩))
                  | (go_at_call 27; ((with_reducible refine (rid_c a7 _ _ I7.out).mono ?_); rintro e w' ⟨rfl, rfl⟩))
                  | (go_at_call 28; ((with_reducible refine (rin_c a2 281474976710656 _ _ N2.out).mono ?_); rintro e w' ⟨rfl, rfl⟩))
                  | (go_at_call 28; ((with_reducible refine (rin_c a3 a2 _ _ N3.out).mono ?_); rintro e w' ⟨rfl, rfl⟩))
                  | (go_at_call 28; ((with_reducible refine (rin_c a6 281474976710656 _ _ N6.out).mono ?_); rintro e w' ⟨rfl, rfl⟩))
                  | (go_at_call 28; ((with_reducible refine (rin_c a8 281474976710656 _ _ N8.out).mono ?_); rintro e w' ⟨rfl, rfl⟩))
                  | (go_at_call 29; go_loud ((with_reducible refine (SC.out _ (Kd.C_alloc HR.out _)).mono ?_); rintro e w2 ⟨rfl, hb⟩; have HB := Aside0.mk (below_step (below_alloc (Below.refl _ _) _) hb); clear hb)))
                go_ret
                exact ⟨rfl, HB.out⟩
          have q4b : (a4 != 0) = true := bne_iff_ne.mpr q4
          cases i4 : idB a4 with
          | false =>
            have I4 := Aside0.mk i4
            have hf : rightB a0 a1 a2 a3 a4 a5 a6 a7 a8 a9 l = false := by unfold rightB masterB aboutB; simp [p1b, p7b, i1, n2c, n3x, n3y, n6c, q4, i4]
            rw [hf]
            clear hf
            clear hE2 hE6 hE8 hsz
            go_enter Try.func14, Try.ntmps14
            go_wp2_with (first
              | (go_at_call 27; ((with_reducible refine (rid_c a1 _ _ I1.out).mono ?_); rintro e w' ⟨rfl, rfl⟩))
              | (go_at_call 27; ((with_reducible refine (rid_c a4 _ _ I4.out).mono ?_); rintro e w' ⟨rfl, rfl⟩))
              | (go_at_call 27; ((with_reducible refine (rid_c a7 _ _ I7.out).mono ?_); rintro e w' ⟨rfl, rfl⟩))
              | (go_at_call 28; ((with_reducible refine (rin_c a2 281474976710656 _ _ N2.out).mono ?_); rintro e w' ⟨rfl, rfl⟩))
              | (go_at_call 28; ((with_reducible refine (rin_c a3 a2 _ _ N3.out).mono ?_); rintro e w' ⟨rfl, rfl⟩))
              | (go_at_call 28; ((with_reducible refine (rin_c a6 281474976710656 _ _ N6.out).mono ?_); rintro e w' ⟨rfl, rfl⟩))
              | (go_at_call 28; ((with_reducible refine (rin_c a8 281474976710656 _ _ N8.out).mono ?_); rintro e w' ⟨rfl, rfl⟩))
              | (go_at_call 29; go_loud ((with_reducible refine (SC.out _ (Kd.C_alloc HR.out _)).mono ?_); rintro e w2 ⟨rfl, hb⟩; have HB := Aside0.mk (below_step (below_alloc (Below.refl _ _) _) hb); clear hb)))
            go_ret
            exact ⟨rfl, below_alloc (Below.refl _ _) _⟩
          | true =>
            have I4 := Aside0.mk i4
            cases q41 : (a4 == a1) with
            | true =>
              have hf : rightB a0 a1 a2 a3 a4 a5 a6 a7 a8 a9 l = false := by unfold rightB masterB aboutB; simp [p1b, p7b, i1, n2c, n3x, n3y, n6c, q4, i4, (beq_iff_eq.mp q41).symm]
              rw [hf]
              clear hf
              clear hE2 hE6 hE8 hsz
              go_enter Try.func14, Try.ntmps14
              go_wp2_with (first
                | (go_at_call 27; ((with_reducible refine (rid_c a1 _ _ I1.out).mono ?_); rintro e w' ⟨rfl, rfl⟩))
                | (go_at_call 27; ((with_reducible refine (rid_c a4 _ _ I4.out).mono ?_); rintro e w' ⟨rfl, rfl⟩))
                | (go_at_call 27; ((with_reducible refine (rid_c a7 _ _ I7.out).mono ?_); rintro e w' ⟨rfl, rfl⟩))
                | (go_at_call 28; ((with_reducible refine (rin_c a2 281474976710656 _ _ N2.out).mono ?_); rintro e w' ⟨rfl, rfl⟩))
                | (go_at_call 28; ((with_reducible refine (rin_c a3 a2 _ _ N3.out).mono ?_); rintro e w' ⟨rfl, rfl⟩))
                | (go_at_call 28; ((with_reducible refine (rin_c a6 281474976710656 _ _ N6.out).mono ?_); rintro e w' ⟨rfl, rfl⟩))
                | (go_at_call 28; ((with_reducible refine (rin_c a8 281474976710656 _ _ N8.out).mono ?_); rintro e w' ⟨rfl, rfl⟩))
                | (go_at_call 29; go_loud ((with_reducible refine (SC.out _ (Kd.C_alloc HR.out _)).mono ?_); rintro e w2 ⟨rfl, hb⟩; have HB := Aside0.mk (below_step (below_alloc (Below.refl _ _) _) hb); clear hb)))
              go_ret
              exact ⟨rfl, below_alloc (Below.refl _ _) _⟩
            | false =>
              by_cases q5 : a5 = 0
              rotate_left
              · have q5b : a5 > 0 := by omega
                have hf : rightB a0 a1 a2 a3 a4 a5 a6 a7 a8 a9 l = false := by unfold rightB masterB aboutB; simp [p1b, p7b, i1, n2c, n3x, n3y, n6c, q4, i4, q5]
                rw [hf]
                clear hf
                clear hE2 hE6 hE8 hsz
                go_enter Try.func14, Try.ntmps14
                go_wp2_with (first
                  | (go_at_call 27; ((with_reducible refine (rid_c a1 _ _ I1.out).mono ?_); rintro e w' ⟨rfl, rfl⟩))
                  | (go_at_call 27; ((with_reducible refine (rid_c a4 _ _ I4.out).mono ?_); rintro e w' ⟨rfl, rfl⟩))
                  | (go_at_call 27; ((with_reducible refine (rid_c a7 _ _ I7.out).mono ?_); rintro e w' ⟨rfl, rfl⟩))
                  | (go_at_call 28; ((with_reducible refine (rin_c a2 281474976710656 _ _ N2.out).mono ?_); rintro e w' ⟨rfl, rfl⟩))
                  | (go_at_call 28; ((with_reducible refine (rin_c a3 a2 _ _ N3.out).mono ?_); rintro e w' ⟨rfl, rfl⟩))
                  | (go_at_call 28; ((with_reducible refine (rin_c a6 281474976710656 _ _ N6.out).mono ?_); rintro e w' ⟨rfl, rfl⟩))
                  | (go_at_call 28; ((with_reducible refine (rin_c a8 281474976710656 _ _ N8.out).mono ?_); rintro e w' ⟨rfl, rfl⟩))
                  | (go_at_call 29; go_loud ((with_reducible refine (SC.out _ (Kd.C_alloc HR.out _)).mono ?_); rintro e w2 ⟨rfl, hb⟩; have HB := Aside0.mk (below_step (below_alloc (Below.refl _ _) _) hb); clear hb)))
                go_ret
                exact ⟨rfl, below_alloc (Below.refl _ _) _⟩
              · have q5b : ¬ a5 > 0 := by omega
                have Q5 := Aside0.mk q5
                clear q5
                by_cases r4 : a0 = 4
                · have r4b : (a0 == 4) = true := beq_iff_eq.mpr r4
                  have r5c : (a0 != 5) = true := bne_iff_ne.mpr (by omega)
                  have r5d : (a0 == 5) = false := beq_eq_false_iff_ne.mpr (by omega)
                  have R4 := Aside0.mk r4
                  clear r4
                  by_cases s7 : a7 = 0
                  · have s7b : (a7 != 0) = false := bne_eq_false_iff_eq.mpr s7
                    have S7 := Aside0.mk s7
                    clear s7
                    have i70 : idB 0 = false := by decide
                    have hf : rightB a0 a1 a2 a3 a4 a5 a6 a7 a8 a9 l = false := by unfold rightB masterB aboutB; simp [p1b, p7b, i1, n2c, n3x, n3y, n6c, q4, i4, beq_eq_false_iff_ne.mp q41, Q5.out, R4.out, S7.out, i70]
                    rw [hf]
                    clear hf
                    clear hE2 hE6 hE8 hsz
                    go_enter Try.func14, Try.ntmps14
                    go_wp2_with (first
                      | (go_at_call 27; ((with_reducible refine (rid_c a1 _ _ I1.out).mono ?_); rintro e w' ⟨rfl, rfl⟩))
                      | (go_at_call 27; ((with_reducible refine (rid_c a4 _ _ I4.out).mono ?_); rintro e w' ⟨rfl, rfl⟩))
                      | (go_at_call 27; ((with_reducible refine (rid_c a7 _ _ I7.out).mono ?_); rintro e w' ⟨rfl, rfl⟩))
                      | (go_at_call 28; ((with_reducible refine (rin_c a2 281474976710656 _ _ N2.out).mono ?_); rintro e w' ⟨rfl, rfl⟩))
                      | (go_at_call 28; ((with_reducible refine (rin_c a3 a2 _ _ N3.out).mono ?_); rintro e w' ⟨rfl, rfl⟩))
                      | (go_at_call 28; ((with_reducible refine (rin_c a6 281474976710656 _ _ N6.out).mono ?_); rintro e w' ⟨rfl, rfl⟩))
                      | (go_at_call 28; ((with_reducible refine (rin_c a8 281474976710656 _ _ N8.out).mono ?_); rintro e w' ⟨rfl, rfl⟩))
                      | (go_at_call 29; go_loud ((with_reducible refine (SC.out _ (Kd.C_alloc HR.out _)).mono ?_); rintro e w2 ⟨rfl, hb⟩; have HB := Aside0.mk (below_step (below_alloc (Below.refl _ _) _) hb); clear hb)))
                    go_ret
                    exact ⟨rfl, below_alloc (Below.refl _ _) _⟩
                  have s7b : (a7 != 0) = true := bne_iff_ne.mpr s7
                  cases i7 : idB a7 with
                  | false =>
                    have I7 := Aside0.mk i7
                    have hf : rightB a0 a1 a2 a3 a4 a5 a6 a7 a8 a9 l = false := by unfold rightB masterB aboutB; simp [p1b, p7b, i1, n2c, n3x, n3y, n6c, q4, i4, beq_eq_false_iff_ne.mp q41, Q5.out, R4.out, i7]
                    rw [hf]
                    clear hf
                    clear hE2 hE6 hE8 hsz
                    go_enter Try.func14, Try.ntmps14
                    go_wp2_with (first
                      | (go_at_call 27; ((with_reducible refine (rid_c a1 _ _ I1.out).mono ?_); rintro e w' ⟨rfl, rfl⟩))
                      | (go_at_call 27; ((with_reducible refine (rid_c a4 _ _ I4.out).mono ?_); rintro e w' ⟨rfl, rfl⟩))
                      | (go_at_call 27; ((with_reducible refine (rid_c a7 _ _ I7.out).mono ?_); rintro e w' ⟨rfl, rfl⟩))
                      | (go_at_call 28; ((with_reducible refine (rin_c a2 281474976710656 _ _ N2.out).mono ?_); rintro e w' ⟨rfl, rfl⟩))
                      | (go_at_call 28; ((with_reducible refine (rin_c a3 a2 _ _ N3.out).mono ?_); rintro e w' ⟨rfl, rfl⟩))
                      | (go_at_call 28; ((with_reducible refine (rin_c a6 281474976710656 _ _ N6.out).mono ?_); rintro e w' ⟨rfl, rfl⟩))
                      | (go_at_call 28; ((with_reducible refine (rin_c a8 281474976710656 _ _ N8.out).mono ?_); rintro e w' ⟨rfl, rfl⟩))
                      | (go_at_call 29; go_loud ((with_reducible refine (SC.out _ (Kd.C_alloc HR.out _)).mono ?_); rintro e w2 ⟨rfl, hb⟩; have HB := Aside0.mk (below_step (below_alloc (Below.refl _ _) _) hb); clear hb)))
                    go_ret
                    exact ⟨rfl, below_alloc (Below.refl _ _) _⟩
                  | true =>
                    have I7 := Aside0.mk i7
                    by_cases t8 : a8 = 0
                    rotate_left
                    · have t8b : (a8 != 0) = true := bne_iff_ne.mpr t8
                      have hf : rightB a0 a1 a2 a3 a4 a5 a6 a7 a8 a9 l = false := by unfold rightB masterB aboutB; simp [p1b, p7b, i1, n2c, n3x, n3y, n6c, q4, i4, beq_eq_false_iff_ne.mp q41, Q5.out, R4.out, i7, t8]
                      rw [hf]
                      clear hf
                      clear hE2 hE6 hE8 hsz
                      go_enter Try.func14, Try.ntmps14
                      go_wp2_with (first
                        | (go_at_call 27; ((with_reducible refine (rid_c a1 _ _ I1.out).mono ?_); rintro e w' ⟨rfl, rfl⟩))
                        | (go_at_call 27; ((with_reducible refine (rid_c a4 _ _ I4.out).mono ?_); rintro e w' ⟨rfl, rfl⟩))
                        | (go_at_call 27; ((with_reducible refine (rid_c a7 _ _ I7.out).mono ?_); rintro e w' ⟨rfl, rfl⟩))
                        | (go_at_call 28; ((with_reducible refine (rin_c a2 281474976710656 _ _ N2.out).mono ?_); rintro e w' ⟨rfl, rfl⟩))
                        | (go_at_call 28; ((with_reducible refine (rin_c a3 a2 _ _ N3.out).mono ?_); rintro e w' ⟨rfl, rfl⟩))
                        | (go_at_call 28; ((with_reducible refine (rin_c a6 281474976710656 _ _ N6.out).mono ?_); rintro e w' ⟨rfl, rfl⟩))
                        | (go_at_call 28; ((with_reducible refine (rin_c a8 281474976710656 _ _ N8.out).mono ?_); rintro e w' ⟨rfl, rfl⟩))
                        | (go_at_call 29; go_loud ((with_reducible refine (SC.out _ (Kd.C_alloc HR.out _)).mono ?_); rintro e w2 ⟨rfl, hb⟩; have HB := Aside0.mk (below_step (below_alloc (Below.refl _ _) _) hb); clear hb)))
                      go_ret
                      exact ⟨rfl, below_alloc (Below.refl _ _) _⟩
                    have t8b : (a8 != 0) = false := bne_eq_false_iff_eq.mpr t8
                    have T8 := Aside0.mk t8
                    clear t8
                    by_cases t9 : a9 = 0
                    rotate_left
                    · have t9b : a9 > 0 := by omega
                      have hf : rightB a0 a1 a2 a3 a4 a5 a6 a7 a8 a9 l = false := by unfold rightB masterB aboutB; simp [p1b, p7b, i1, n2c, n3x, n3y, n6c, q4, i4, beq_eq_false_iff_ne.mp q41, Q5.out, R4.out, i7, T8.out, t9]
                      rw [hf]
                      clear hf
                      clear hE2 hE6 hE8 hsz
                      go_enter Try.func14, Try.ntmps14
                      go_wp2_with (first
                        | (go_at_call 27; ((with_reducible refine (rid_c a1 _ _ I1.out).mono ?_); rintro e w' ⟨rfl, rfl⟩))
                        | (go_at_call 27; ((with_reducible refine (rid_c a4 _ _ I4.out).mono ?_); rintro e w' ⟨rfl, rfl⟩))
                        | (go_at_call 27; ((with_reducible refine (rid_c a7 _ _ I7.out).mono ?_); rintro e w' ⟨rfl, rfl⟩))
                        | (go_at_call 28; ((with_reducible refine (rin_c a2 281474976710656 _ _ N2.out).mono ?_); rintro e w' ⟨rfl, rfl⟩))
                        | (go_at_call 28; ((with_reducible refine (rin_c a3 a2 _ _ N3.out).mono ?_); rintro e w' ⟨rfl, rfl⟩))
                        | (go_at_call 28; ((with_reducible refine (rin_c a6 281474976710656 _ _ N6.out).mono ?_); rintro e w' ⟨rfl, rfl⟩))
                        | (go_at_call 28; ((with_reducible refine (rin_c a8 281474976710656 _ _ N8.out).mono ?_); rintro e w' ⟨rfl, rfl⟩))
                        | (go_at_call 29; go_loud ((with_reducible refine (SC.out _ (Kd.C_alloc HR.out _)).mono ?_); rintro e w2 ⟨rfl, hb⟩; have HB := Aside0.mk (below_step (below_alloc (Below.refl _ _) _) hb); clear hb)))
                      go_ret
                      exact ⟨rfl, below_alloc (Below.refl _ _) _⟩
                    · have t9b : ¬ a9 > 0 := by omega
                      have T9 := Aside0.mk t9
                      clear t9
                      have hf : rightB a0 a1 a2 a3 a4 a5 a6 a7 a8 a9 l = (secB a1 [] l && sizeB a0 l.length) := by unfold rightB masterB aboutB; simp [p1b, p7b, i1, n2c, n3x, n3y, n6c, q4, i4, beq_eq_false_iff_ne.mp q41, Q5.out, R4.out, i7, T8.out, T9.out]
                      rw [hf, hsz]
                      clear hf
                      clear hE2 hE6 hE8 hsz
                      go_enter Try.func14, Try.ntmps14
                      go_wp2_with (first
                        | (go_at_call 27; ((with_reducible refine (rid_c a1 _ _ I1.out).mono ?_); rintro e w' ⟨rfl, rfl⟩))
                        | (go_at_call 27; ((with_reducible refine (rid_c a4 _ _ I4.out).mono ?_); rintro e w' ⟨rfl, rfl⟩))
                        | (go_at_call 27; ((with_reducible refine (rid_c a7 _ _ I7.out).mono ?_); rintro e w' ⟨rfl, rfl⟩))
                        | (go_at_call 28; ((with_reducible refine (rin_c a2 281474976710656 _ _ N2.out).mono ?_); rintro e w' ⟨rfl, rfl⟩))
                        | (go_at_call 28; ((with_reducible refine (rin_c a3 a2 _ _ N3.out).mono ?_); rintro e w' ⟨rfl, rfl⟩))
                        | (go_at_call 28; ((with_reducible refine (rin_c a6 281474976710656 _ _ N6.out).mono ?_); rintro e w' ⟨rfl, rfl⟩))
                        | (go_at_call 28; ((with_reducible refine (rin_c a8 281474976710656 _ _ N8.out).mono ?_); rintro e w' ⟨rfl, rfl⟩))
                        | (go_at_call 29; go_loud ((with_reducible refine (SC.out _ (Kd.C_alloc HR.out _)).mono ?_); rintro e w2 ⟨rfl, hb⟩; have HB := Aside0.mk (below_step (below_alloc (Below.refl _ _) _) hb); clear hb)))
                      go_ret
                      exact ⟨rfl, HB.out⟩
                have r4b : (a0 == 4) = false := beq_eq_false_iff_ne.mpr r4
                by_cases r5 : a0 = 5
                · have r5b : (a0 == 5) = true := beq_iff_eq.mpr r5
                  have r5c : (a0 != 5) = false := bne_eq_false_iff_eq.mpr r5
                  have R5 := Aside0.mk r5
                  clear r5
                  by_cases s7 : a7 = 0
                  · have s7b : (a7 != 0) = false := bne_eq_false_iff_eq.mpr s7
                    have S7 := Aside0.mk s7
                    clear s7
                    have i70 : idB 0 = false := by decide
                    have hf : rightB a0 a1 a2 a3 a4 a5 a6 a7 a8 a9 l = false := by unfold rightB masterB aboutB; simp [p1b, p7b, i1, n2c, n3x, n3y, n6c, q4, i4, beq_eq_false_iff_ne.mp q41, Q5.out, R5.out, S7.out, i70]
                    rw [hf]
                    clear hf
                    clear hE2 hE6 hE8 hsz
                    go_enter Try.func14, Try.ntmps14
                    go_wp2_with (first
                      | (go_at_call 27; ((with_reducible refine (rid_c a1 _ _ I1.out).mono ?_); rintro e w' ⟨rfl, rfl⟩))
                      | (go_at_call 27; ((with_reducible refine (rid_c a4 _ _ I4.out).mono ?_); rintro e w' ⟨rfl, rfl⟩))
                      | (go_at_call 27; ((with_reducible refine (rid_c a7 _ _ I7.out).mono ?_); rintro e w' ⟨rfl, rfl⟩))
                      | (go_at_call 28; ((with_reducible refine (rin_c a2 281474976710656 _ _ N2.out).mono ?_); rintro e w' ⟨rfl, rfl⟩))
                      | (go_at_call 28; ((with_reducible refine (rin_c a3 a2 _ _ N3.out).mono ?_); rintro e w' ⟨rfl, rfl⟩))
                      | (go_at_call 28; ((with_reducible refine (rin_c a6 281474976710656 _ _ N6.out).mono ?_); rintro e w' ⟨rfl, rfl⟩))
                      | (go_at_call 28; ((with_reducible refine (rin_c a8 281474976710656 _ _ N8.out).mono ?_); rintro e w' ⟨rfl, rfl⟩))
                      | (go_at_call 29; go_loud ((with_reducible refine (SC.out _ (Kd.C_alloc HR.out _)).mono ?_); rintro e w2 ⟨rfl, hb⟩; have HB := Aside0.mk (below_step (below_alloc (Below.refl _ _) _) hb); clear hb)))
                    go_ret
                    exact ⟨rfl, below_alloc (Below.refl _ _) _⟩
                  have s7b : (a7 != 0) = true := bne_iff_ne.mpr s7
                  cases i7 : idB a7 with
                  | false =>
                    have I7 := Aside0.mk i7
                    have hf : rightB a0 a1 a2 a3 a4 a5 a6 a7 a8 a9 l = false := by unfold rightB masterB aboutB; simp [p1b, p7b, i1, n2c, n3x, n3y, n6c, q4, i4, beq_eq_false_iff_ne.mp q41, Q5.out, R5.out, i7]
                    rw [hf]
                    clear hf
                    clear hE2 hE6 hE8 hsz
                    go_enter Try.func14, Try.ntmps14
                    go_wp2_with (first
                      | (go_at_call 27; ((with_reducible refine (rid_c a1 _ _ I1.out).mono ?_); rintro e w' ⟨rfl, rfl⟩))
                      | (go_at_call 27; ((with_reducible refine (rid_c a4 _ _ I4.out).mono ?_); rintro e w' ⟨rfl, rfl⟩))
                      | (go_at_call 27; ((with_reducible refine (rid_c a7 _ _ I7.out).mono ?_); rintro e w' ⟨rfl, rfl⟩))
                      | (go_at_call 28; ((with_reducible refine (rin_c a2 281474976710656 _ _ N2.out).mono ?_); rintro e w' ⟨rfl, rfl⟩))
                      | (go_at_call 28; ((with_reducible refine (rin_c a3 a2 _ _ N3.out).mono ?_); rintro e w' ⟨rfl, rfl⟩))
                      | (go_at_call 28; ((with_reducible refine (rin_c a6 281474976710656 _ _ N6.out).mono ?_); rintro e w' ⟨rfl, rfl⟩))
                      | (go_at_call 28; ((with_reducible refine (rin_c a8 281474976710656 _ _ N8.out).mono ?_); rintro e w' ⟨rfl, rfl⟩))
                      | (go_at_call 29; go_loud ((with_reducible refine (SC.out _ (Kd.C_alloc HR.out _)).mono ?_); rintro e w2 ⟨rfl, hb⟩; have HB := Aside0.mk (below_step (below_alloc (Below.refl _ _) _) hb); clear hb)))
                    go_ret
                    exact ⟨rfl, below_alloc (Below.refl _ _) _⟩
                  | true =>
                    have I7 := Aside0.mk i7
                    cases n8 : inB a8 281474976710656 with
                    | false =>
                      have N8 := Aside0.mk n8
                      have n8c : epB a8 = false := n8
                      have hf : rightB a0 a1 a2 a3 a4 a5 a6 a7 a8 a9 l = false := by unfold rightB masterB aboutB; simp [p1b, p7b, i1, n2c, n3x, n3y, n6c, q4, i4, beq_eq_false_iff_ne.mp q41, Q5.out, R5.out, i7, n8c]
                      rw [hf]
                      clear hf
                      clear hE2 hE6 hE8 hsz
                      go_enter Try.func14, Try.ntmps14
                      go_wp2_with (first
                        | (go_at_call 27; ((with_reducible refine (rid_c a1 _ _ I1.out).mono ?_); rintro e w' ⟨rfl, rfl⟩))
                        | (go_at_call 27; ((with_reducible refine (rid_c a4 _ _ I4.out).mono ?_); rintro e w' ⟨rfl, rfl⟩))
                        | (go_at_call 27; ((with_reducible refine (rid_c a7 _ _ I7.out).mono ?_); rintro e w' ⟨rfl, rfl⟩))
                        | (go_at_call 28; ((with_reducible refine (rin_c a2 281474976710656 _ _ N2.out).mono ?_); rintro e w' ⟨rfl, rfl⟩))
                        | (go_at_call 28; ((with_reducible refine (rin_c a3 a2 _ _ N3.out).mono ?_); rintro e w' ⟨rfl, rfl⟩))
                        | (go_at_call 28; ((with_reducible refine (rin_c a6 281474976710656 _ _ N6.out).mono ?_); rintro e w' ⟨rfl, rfl⟩))
                        | (go_at_call 28; ((with_reducible refine (rin_c a8 281474976710656 _ _ N8.out).mono ?_); rintro e w' ⟨rfl, rfl⟩))
                        | (go_at_call 29; go_loud ((with_reducible refine (SC.out _ (Kd.C_alloc HR.out _)).mono ?_); rintro e w2 ⟨rfl, hb⟩; have HB := Aside0.mk (below_step (below_alloc (Below.refl _ _) _) hb); clear hb)))
                      go_ret
                      exact ⟨rfl, below_alloc (Below.refl _ _) _⟩
                    | true =>
                      have N8 := Aside0.mk n8
                      have n8c : epB a8 = true := n8
                      have hf : rightB a0 a1 a2 a3 a4 a5 a6 a7 a8 a9 l = (secB a1 [] l && sizeB a0 l.length) := by unfold rightB masterB aboutB; simp [p1b, p7b, i1, n2c, n3x, n3y, n6c, q4, i4, beq_eq_false_iff_ne.mp q41, Q5.out, R5.out, i7, n8c]
                      rw [hf, hsz]
                      clear hf
                      clear hE2 hE6 hE8 hsz
                      go_enter Try.func14, Try.ntmps14
                      go_wp2_with (first
                        | (go_at_call 27; ((with_reducible refine (rid_c a1 _ _ I1.out).mono ?_); rintro e w' ⟨rfl, rfl⟩))
                        | (go_at_call 27; ((with_reducible refine (rid_c a4 _ _ I4.out).mono ?_); rintro e w' ⟨rfl, rfl⟩))
                        | (go_at_call 27; ((with_reducible refine (rid_c a7 _ _ I7.out).mono ?_); rintro e w' ⟨rfl, rfl⟩))
                        | (go_at_call 28; ((with_reducible refine (rin_c a2 281474976710656 _ _ N2.out).mono ?_); rintro e w' ⟨rfl, rfl⟩))
                        | (go_at_call 28; ((with_reducible refine (rin_c a3 a2 _ _ N3.out).mono ?_); rintro e w' ⟨rfl, rfl⟩))
                        | (go_at_call 28; ((with_reducible refine (rin_c a6 281474976710656 _ _ N6.out).mono ?_); rintro e w' ⟨rfl, rfl⟩))
                        | (go_at_call 28; ((with_reducible refine (rin_c a8 281474976710656 _ _ N8.out).mono ?_); rintro e w' ⟨rfl, rfl⟩))
                        | (go_at_call 29; go_loud ((with_reducible refine (SC.out _ (Kd.C_alloc HR.out _)).mono ?_); rintro e w2 ⟨rfl, hb⟩; have HB := Aside0.mk (below_step (below_alloc (Below.refl _ _) _) hb); clear hb)))
                      go_ret
                      exact ⟨rfl, HB.out⟩
                have r5b : (a0 == 5) = false := beq_eq_false_iff_ne.mpr r5
                have r5c : (a0 != 5) = true := bne_iff_ne.mpr r5
                by_cases s7 : a7 = 0
                rotate_left
                · have s7b : (a7 != 0) = true := bne_iff_ne.mpr s7
                  have hf : rightB a0 a1 a2 a3 a4 a5 a6 a7 a8 a9 l = false := by unfold rightB masterB aboutB; simp [p1b, p7b, i1, n2c, n3x, n3y, n6c, q4, i4, beq_eq_false_iff_ne.mp q41, Q5.out, r4, r5, s7]
                  rw [hf]
                  clear hf
                  clear hE2 hE6 hE8 hsz
                  go_enter Try.func14, Try.ntmps14
                  go_wp2_with (first
                    | (go_at_call 27; ((with_reducible refine (rid_c a1 _ _ I1.out).mono ?_); rintro e w' ⟨rfl, rfl⟩))
                    | (go_at_call 27; ((with_reducible refine (rid_c a4 _ _ I4.out).mono ?_); rintro e w' ⟨rfl, rfl⟩))
                    | (go_at_call 27; ((with_reducible refine (rid_c a7 _ _ I7.out).mono ?_); rintro e w' ⟨rfl, rfl⟩))
                    | (go_at_call 28; ((with_reducible refine (rin_c a2 281474976710656 _ _ N2.out).mono ?_); rintro e w' ⟨rfl, rfl⟩))
                    | (go_at_call 28; ((with_reducible refine (rin_c a3 a2 _ _ N3.out).mono ?_); rintro e w' ⟨rfl, rfl⟩))
                    | (go_at_call 28; ((with_reducible refine (rin_c a6 281474976710656 _ _ N6.out).mono ?_); rintro e w' ⟨rfl, rfl⟩))
                    | (go_at_call 28; ((with_reducible refine (rin_c a8 281474976710656 _ _ N8.out).mono ?_); rintro e w' ⟨rfl, rfl⟩))
                    | (go_at_call 29; go_loud ((with_reducible refine (SC.out _ (Kd.C_alloc HR.out _)).mono ?_); rintro e w2 ⟨rfl, hb⟩; have HB := Aside0.mk (below_step (below_alloc (Below.refl _ _) _) hb); clear hb)))
                  go_ret
                  exact ⟨rfl, below_alloc (Below.refl _ _) _⟩
                · have s7b : (a7 != 0) = false := bne_eq_false_iff_eq.mpr s7
                  have S7 := Aside0.mk s7
                  clear s7
                  by_cases t8 : a8 = 0
                  rotate_left
                  · have t8b : (a8 != 0) = true := bne_iff_ne.mpr t8
                    have hf : rightB a0 a1 a2 a3 a4 a5 a6 a7 a8 a9 l = false := by unfold rightB masterB aboutB; simp [p1b, p7b, i1, n2c, n3x, n3y, n6c, q4, i4, beq_eq_false_iff_ne.mp q41, Q5.out, r4, r5, S7.out, t8]
                    rw [hf]
                    clear hf
                    clear hE2 hE6 hE8 hsz
                    go_enter Try.func14, Try.ntmps14
                    go_wp2_with (first
                      | (go_at_call 27; ((with_reducible refine (rid_c a1 _ _ I1.out).mono ?_); rintro e w' ⟨rfl, rfl⟩))
                      | (go_at_call 27; ((with_reducible refine (rid_c a4 _ _ I4.out).mono ?_); rintro e w' ⟨rfl, rfl⟩))
                      | (go_at_call 27; ((with_reducible refine (rid_c a7 _ _ I7.out).mono ?_); rintro e w' ⟨rfl, rfl⟩))
                      | (go_at_call 28; ((with_reducible refine (rin_c a2 281474976710656 _ _ N2.out).mono ?_); rintro e w' ⟨rfl, rfl⟩))
                      | (go_at_call 28; ((with_reducible refine (rin_c a3 a2 _ _ N3.out).mono ?_); rintro e w' ⟨rfl, rfl⟩))
                      | (go_at_call 28; ((with_reducible refine (rin_c a6 281474976710656 _ _ N6.out).mono ?_); rintro e w' ⟨rfl, rfl⟩))
                      | (go_at_call 28; ((with_reducible refine (rin_c a8 281474976710656 _ _ N8.out).mono ?_); rintro e w' ⟨rfl, rfl⟩))
                      | (go_at_call 29; go_loud ((with_reducible refine (SC.out _ (Kd.C_alloc HR.out _)).mono ?_); rintro e w2 ⟨rfl, hb⟩; have HB := Aside0.mk (below_step (below_alloc (Below.refl _ _) _) hb); clear hb)))
                    go_ret
                    exact ⟨rfl, below_alloc (Below.refl _ _) _⟩
                  have t8b : (a8 != 0) = false := bne_eq_false_iff_eq.mpr t8
                  have T8 := Aside0.mk t8
                  clear t8
                  by_cases t9 : a9 = 0
                  rotate_left
                  · have t9b : a9 > 0 := by omega
                    have hf : rightB a0 a1 a2 a3 a4 a5 a6 a7 a8 a9 l = false := by unfold rightB masterB aboutB; simp [p1b, p7b, i1, n2c, n3x, n3y, n6c, q4, i4, beq_eq_false_iff_ne.mp q41, Q5.out, r4, r5, S7.out, T8.out, t9]
                    rw [hf]
                    clear hf
                    clear hE2 hE6 hE8 hsz
                    go_enter Try.func14, Try.ntmps14
                    go_wp2_with (first
                      | (go_at_call 27; ((with_reducible refine (rid_c a1 _ _ I1.out).mono ?_); rintro e w' ⟨rfl, rfl⟩))
                      | (go_at_call 27; ((with_reducible refine (rid_c a4 _ _ I4.out).mono ?_); rintro e w' ⟨rfl, rfl⟩))
                      | (go_at_call 27; ((with_reducible refine (rid_c a7 _ _ I7.out).mono ?_); rintro e w' ⟨rfl, rfl⟩))
                      | (go_at_call 28; ((with_reducible refine (rin_c a2 281474976710656 _ _ N2.out).mono ?_); rintro e w' ⟨rfl, rfl⟩))
                      | (go_at_call 28; ((with_reducible refine (rin_c a3 a2 _ _ N3.out).mono ?_); rintro e w' ⟨rfl, rfl⟩))
                      | (go_at_call 28; ((with_reducible refine (rin_c a6 281474976710656 _ _ N6.out).mono ?_); rintro e w' ⟨rfl, rfl⟩))
                      | (go_at_call 28; ((with_reducible refine (rin_c a8 281474976710656 _ _ N8.out).mono ?_); rintro e w' ⟨rfl, rfl⟩))
                      | (go_at_call 29; go_loud ((with_reducible refine (SC.out _ (Kd.C_alloc HR.out _)).mono ?_); rintro e w2 ⟨rfl, hb⟩; have HB := Aside0.mk (below_step (below_alloc (Below.refl _ _) _) hb); clear hb)))
                    go_ret
                    exact ⟨rfl, below_alloc (Below.refl _ _) _⟩
                  · have t9b : ¬ a9 > 0 := by omega
                    have T9 := Aside0.mk t9
                    clear t9
                    have hf : rightB a0 a1 a2 a3 a4 a5 a6 a7 a8 a9 l = (secB a1 [] l && sizeB a0 l.length) := by unfold rightB masterB aboutB; simp [p1b, p7b, i1, n2c, n3x, n3y, n6c, q4, i4, beq_eq_false_iff_ne.mp q41, Q5.out, r4, r5, S7.out, T8.out, T9.out]
                    rw [hf, hsz]
                    clear hf
                    clear hE2 hE6 hE8 hsz
                    go_enter Try.func14, Try.ntmps14
                    go_wp2_with (first
                      | (go_at_call 27; ((with_reducible refine (rid_c a1 _ _ I1.out).mono ?_); rintro e w' ⟨rfl, rfl⟩))
                      | (go_at_call 27; ((with_reducible refine (rid_c a4 _ _ I4.out).mono ?_); rintro e w' ⟨rfl, rfl⟩))
                      | (go_at_call 27; ((with_reducible refine (rid_c a7 _ _ I7.out).mono ?_); rintro e w' ⟨rfl, rfl⟩))
                      | (go_at_call 28; ((with_reducible refine (rin_c a2 281474976710656 _ _ N2.out).mono ?_); rintro e w' ⟨rfl, rfl⟩))
                      | (go_at_call 28; ((with_reducible refine (rin_c a3 a2 _ _ N3.out).mono ?_); rintro e w' ⟨rfl, rfl⟩))
                      | (go_at_call 28; ((with_reducible refine (rin_c a6 281474976710656 _ _ N6.out).mono ?_); rintro e w' ⟨rfl, rfl⟩))
                      | (go_at_call 28; ((with_reducible refine (rin_c a8 281474976710656 _ _ N8.out).mono ?_); rintro e w' ⟨rfl, rfl⟩))
                      | (go_at_call 29; go_loud ((with_reducible refine (SC.out _ (Kd.C_alloc HR.out _)).mono ?_); rintro e w2 ⟨rfl, hb⟩; have HB := Aside0.mk (below_step (below_alloc (Below.refl _ _) _) hb); clear hb)))
                    go_ret
                    exact ⟨rfl, HB.out⟩
end Go.Proofs.Ytldiipomcenbkaa.Qw
