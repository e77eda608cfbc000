/- WireFields by hand: another Kind that has the same parts, or another Offset, is right, and unlike in its bytes. -/
import Derived.Test.YtldiipomcenbkaaHandZ
namespace Go.Proofs.Ytldiipomcenbkaa.Qw
open Go.RowKit Go.Proofs.YtldiipomcenbkaaW.PrintWords Go.Proofs.YtldiipomcenbkaaW.PrintLast Go.Proofs.YtldiipomcenbkaaW.PrintMore
open HandS (Bytes byte_at add_block)
set_option linter.unusedVariables false
set_option linter.unusedSimpArgs false
/-- A Kind with the same parts. -/
def Like (a0 kd : Int) : Prop := (a0 ≤ 3 ∧ 1 ≤ kd ∧ kd ≤ 3) ∨ (6 ≤ a0 ∧ 6 ≤ kd ∧ kd ≤ 7) ∨ kd = a0
theorem fields_right {a0 a1 a2 a3 a4 a5 a6 a7 a8 a9 kd os : Int} {l : List S48} (h : rightB a0 a1 a2 a3 a4 a5 a6 a7 a8 a9 l = true) (hk : Like a0 kd) (h0 : 0 ≤ os) (h1 : os ≤ 281474976710656) : rightB kd a1 a2 a3 a4 a5 os a7 a8 a9 l = true := by
  have R := right_of h
  have r1 := R.k1
  have r7 := R.k7
  unfold rightB at h ⊢
  simp only [Bool.and_eq_true, decide_eq_true_eq] at h ⊢
  obtain ⟨⟨⟨⟨⟨⟨⟨k1, k7⟩, hf⟩, he⟩, hm⟩, ho⟩, ha⟩, hs, hz⟩ := h
  refine ⟨⟨⟨⟨⟨⟨⟨?_, ?_⟩, hf⟩, he⟩, hm⟩, ?_⟩, ?_⟩, hs, ?_⟩
  · rcases hk with hk | hk | hk <;> omega
  · rcases hk with hk | hk | hk <;> omega
  · unfold epB
    simp [h0, h1]
  · rcases hk with hk | hk | hk
    · unfold aboutB at ha ⊢
      rw [if_neg (by omega), if_neg (by omega)] at ha ⊢
      exact ha
    · unfold aboutB at ha ⊢
      rw [if_neg (by omega), if_neg (by omega)] at ha ⊢
      exact ha
    · rw [hk]; exact ha
  · rcases hk with hk | hk | hk
    · unfold sizeB at hz ⊢
      simp only [Bool.or_eq_true, decide_eq_true_eq, Bool.and_eq_true] at hz ⊢
      omega
    · unfold sizeB at hz ⊢
      simp only [Bool.or_eq_true, decide_eq_true_eq, Bool.and_eq_true] at hz ⊢
      omega
    · rw [hk]; exact hz
theorem conv_str {w : World} {g n c : Nat} {bs : List Nat} (h : Bytes w (some ⟨g, 0, none⟩) n bs) (s : ByteArray) (hs : strOfNums (iz bs) = s) : (convert 32 9 (.slice (some ⟨g, 0, none⟩) n c)).run Try.prog w = .ok (.string s) w :=
  hs ▸ Kd.C_string Try.underlying32 Try.underlying5 Try.underlying9 (C_of_bytes h)
set_option maxRecDepth 100000 in
theorem fields_out (a0 a1 a2 a3 a4 a5 a6 a7 a8 a9 kd os : Int) (A : Option Addr) (c : Nat) (l : List S48) (n : Nat) (hn : l.length = n) (w : World) (hr : Kd.C k48 w A n l) (hc : n ≤ c) (hn20 : 20 < n) : Calls Try.prog 8 #[.agg #[.int .i64 a0, .int .i64 a1, .int .i64 a2, .int .i64 a3, .int .i64 a4, .int .u64 a5, .int .i64 a6, .int .i64 a7, .int .i64 a8, .int .u64 a9, .slice A n c], .int .i64 kd, .int .i64 os] w fun e w' => e = .returned (.bool true) ∧ Below w.heap.size w w' := by
  have hm := hr.2.1
  clear hr
  go_enter Try.func8, Try.ntmps8
  go_wp2_with (first
    | (go_at_call 10; go_loud (refine (anchor_c _).mono ?_; rintro e w1 ⟨rfl, hb⟩; have HB1 := Aside0.mk (below_step (below_alloc (Below.refl _ _) _) hb); have HG := Aside0.mk (blk_below (blk_new w _) hb); clear hb; obtain ⟨f0, f1, f2, f3, f4, f5, f6, f7, f8, f9, f10⟩ := cells11 HG.out; have gl := World.block_lt_of_cell? w1 _ f0; dsimp only at gl)))
  go_ret
  exact ⟨rfl, HB1.out⟩
set_option maxRecDepth 100000 in
theorem fields_wrong (a0 a1 a2 a3 a4 a5 a6 a7 a8 a9 kd os : Int) (A : Option Addr) (c : Nat) (l : List S48) (n : Nat) (hn : l.length = n) (w : World) (hr : Kd.C k48 w A n l) (hc : n ≤ c) (hn20 : n ≤ 20) (hrt : rightB a0 a1 a2 a3 a4 a5 a6 a7 a8 a9 l = false) : Calls Try.prog 8 #[.agg #[.int .i64 a0, .int .i64 a1, .int .i64 a2, .int .i64 a3, .int .i64 a4, .int .u64 a5, .int .i64 a6, .int .i64 a7, .int .i64 a8, .int .u64 a9, .slice A n c], .int .i64 kd, .int .i64 os] w fun e w' => e = .returned (.bool true) ∧ Below w.heap.size w w' := by
  have RC := Aside0.mk (fun W (h : Kd.C k48 W A n l) => right_c a0 a1 a2 a3 a4 a5 a6 a7 a8 a9 A c l W (by rw [hn]; exact h) (by omega) false hrt)
  rw [hn] at RC
  have HR := Aside0.mk hr
  clear hr hrt hn
  go_enter Try.func8, Try.ntmps8
  go_wp2_with (first
    | (go_at_call 10; go_loud (refine (anchor_c _).mono ?_; rintro e w1 ⟨rfl, hb⟩; have HB1 := Aside0.mk (below_step (below_alloc (Below.refl _ _) _) hb); have HG := Aside0.mk (blk_below (blk_new w _) hb); clear hb; obtain ⟨f0, f1, f2, f3, f4, f5, f6, f7, f8, f9, f10⟩ := cells11 HG.out; have gl := World.block_lt_of_cell? w1 _ f0; dsimp only at gl))
    | (go_at_call 13; go_loud ((with_reducible refine (RC.out _ (Kd.C_below HR.out HB1.out)).mono ?_); rintro e w2 ⟨rfl, hb⟩; have HB2 := Aside0.mk (HB1.out.trans (hb.mono HB1.out.size)); have HG2 := Aside0.mk (blk_below HG.out hb); clear hb gl f0 f1 f2 f3 f4 f5 f6 f7 f8 f9 f10; obtain ⟨f0, f1, f2, f3, f4, f5, f6, f7, f8, f9, f10⟩ := cells11 HG2.out; have gl := World.block_lt_of_cell? w2 _ f0; dsimp only at gl)))
  go_ret
  exact ⟨rfl, HB2.out⟩
set_option maxRecDepth 100000 in
set_option maxHeartbeats 4000000 in
theorem fields_unlike (a0 a1 a2 a3 a4 a5 a6 a7 a8 a9 kd os : Int) (A : Option Addr) (c : Nat) (l : List S48) (n : Nat) (hn : l.length = n) (w : World) (hr : Kd.C k48 w A n l) (hc : n ≤ c) (hn20 : n ≤ 20) (hrt : rightB a0 a1 a2 a3 a4 a5 a6 a7 a8 a9 l = true) (hk : ¬ Like a0 kd) : Calls Try.prog 8 #[.agg #[.int .i64 a0, .int .i64 a1, .int .i64 a2, .int .i64 a3, .int .i64 a4, .int .u64 a5, .int .i64 a6, .int .i64 a7, .int .i64 a8, .int .u64 a9, .slice A n c], .int .i64 kd, .int .i64 os] w fun e w' => e = .returned (.bool true) ∧ Below w.heap.size w w' := by
  have RC := Aside0.mk (fun W (h : Kd.C k48 W A n l) => right_c a0 a1 a2 a3 a4 a5 a6 a7 a8 a9 A c l W (by rw [hn]; exact h) (by omega) true hrt)
  rw [hn] at RC
  have R := right_of hrt
  have r1 := R.k1
  have r7 := R.k7
  have HR := Aside0.mk hr
  clear R
  clear hr hrt hn
  unfold Like at hk
  have hc5 : (a0 ≤ 3 ∧ kd < 1) ∨ (a0 ≤ 3 ∧ 3 < kd) ∨ (3 < a0 ∧ a0 < 6 ∧ kd ≠ a0) ∨ (6 ≤ a0 ∧ kd < 6) ∨ (6 ≤ a0 ∧ 7 < kd) := by omega
  have p7 : (a0 == kd) = false := beq_eq_false_iff_ne.mpr (by omega)
  clear hk
  rcases hc5 with ⟨h1, h2⟩ | ⟨h1, h2⟩ | ⟨h1, h2, h3⟩ | ⟨h1, h2⟩ | ⟨h1, h2⟩
  · have q1 : ¬ 1 ≤ kd := by omega
    have q2 : ¬ 6 ≤ a0 := by omega
    go_enter Try.func8, Try.ntmps8
    go_wp2_with (first
      | (go_at_call 10; go_loud (refine (anchor_c _).mono ?_; rintro e w1 ⟨rfl, hb⟩; have HB1 := Aside0.mk (below_step (below_alloc (Below.refl _ _) _) hb); have HG := Aside0.mk (blk_below (blk_new w _) hb); clear hb; obtain ⟨f0, f1, f2, f3, f4, f5, f6, f7, f8, f9, f10⟩ := cells11 HG.out; have gl := World.block_lt_of_cell? w1 _ f0; dsimp only at gl))
      | (go_at_call 13; go_loud ((with_reducible refine (RC.out _ (Kd.C_below HR.out HB1.out)).mono ?_); rintro e w2 ⟨rfl, hb⟩; have HB2 := Aside0.mk (HB1.out.trans (hb.mono HB1.out.size)); have HG2 := Aside0.mk (blk_below HG.out hb); clear hb gl f0 f1 f2 f3 f4 f5 f6 f7 f8 f9 f10; obtain ⟨f0, f1, f2, f3, f4, f5, f6, f7, f8, f9, f10⟩ := cells11 HG2.out; have gl := World.block_lt_of_cell? w2 _ f0; dsimp only at gl)))
    go_ret
    exact ⟨rfl, HB2.out.alloc HB2.out.size _⟩
  · have q1 : 1 ≤ kd := by omega
    have q2 : ¬ 6 ≤ a0 := by omega
    have q3 : ¬ kd ≤ 3 := by omega
    go_enter Try.func8, Try.ntmps8
    go_wp2_with (first
      | (go_at_call 10; go_loud (refine (anchor_c _).mono ?_; rintro e w1 ⟨rfl, hb⟩; have HB1 := Aside0.mk (below_step (below_alloc (Below.refl _ _) _) hb); have HG := Aside0.mk (blk_below (blk_new w _) hb); clear hb; obtain ⟨f0, f1, f2, f3, f4, f5, f6, f7, f8, f9, f10⟩ := cells11 HG.out; have gl := World.block_lt_of_cell? w1 _ f0; dsimp only at gl))
      | (go_at_call 13; go_loud ((with_reducible refine (RC.out _ (Kd.C_below HR.out HB1.out)).mono ?_); rintro e w2 ⟨rfl, hb⟩; have HB2 := Aside0.mk (HB1.out.trans (hb.mono HB1.out.size)); have HG2 := Aside0.mk (blk_below HG.out hb); clear hb gl f0 f1 f2 f3 f4 f5 f6 f7 f8 f9 f10; obtain ⟨f0, f1, f2, f3, f4, f5, f6, f7, f8, f9, f10⟩ := cells11 HG2.out; have gl := World.block_lt_of_cell? w2 _ f0; dsimp only at gl)))
    go_ret
    exact ⟨rfl, HB2.out.alloc HB2.out.size _⟩
  · have q1 : ¬ a0 ≤ 3 := by omega
    have q2 : ¬ 6 ≤ a0 := by omega
    go_enter Try.func8, Try.ntmps8
    go_wp2_with (first
      | (go_at_call 10; go_loud (refine (anchor_c _).mono ?_; rintro e w1 ⟨rfl, hb⟩; have HB1 := Aside0.mk (below_step (below_alloc (Below.refl _ _) _) hb); have HG := Aside0.mk (blk_below (blk_new w _) hb); clear hb; obtain ⟨f0, f1, f2, f3, f4, f5, f6, f7, f8, f9, f10⟩ := cells11 HG.out; have gl := World.block_lt_of_cell? w1 _ f0; dsimp only at gl))
      | (go_at_call 13; go_loud ((with_reducible refine (RC.out _ (Kd.C_below HR.out HB1.out)).mono ?_); rintro e w2 ⟨rfl, hb⟩; have HB2 := Aside0.mk (HB1.out.trans (hb.mono HB1.out.size)); have HG2 := Aside0.mk (blk_below HG.out hb); clear hb gl f0 f1 f2 f3 f4 f5 f6 f7 f8 f9 f10; obtain ⟨f0, f1, f2, f3, f4, f5, f6, f7, f8, f9, f10⟩ := cells11 HG2.out; have gl := World.block_lt_of_cell? w2 _ f0; dsimp only at gl)))
    go_ret
    exact ⟨rfl, HB2.out.alloc HB2.out.size _⟩
  · have q1 : ¬ a0 ≤ 3 := by omega
    have q2 : ¬ 6 ≤ kd := by omega
    go_enter Try.func8, Try.ntmps8
    go_wp2_with (first
      | (go_at_call 10; go_loud (refine (anchor_c _).mono ?_; rintro e w1 ⟨rfl, hb⟩; have HB1 := Aside0.mk (below_step (below_alloc (Below.refl _ _) _) hb); have HG := Aside0.mk (blk_below (blk_new w _) hb); clear hb; obtain ⟨f0, f1, f2, f3, f4, f5, f6, f7, f8, f9, f10⟩ := cells11 HG.out; have gl := World.block_lt_of_cell? w1 _ f0; dsimp only at gl))
      | (go_at_call 13; go_loud ((with_reducible refine (RC.out _ (Kd.C_below HR.out HB1.out)).mono ?_); rintro e w2 ⟨rfl, hb⟩; have HB2 := Aside0.mk (HB1.out.trans (hb.mono HB1.out.size)); have HG2 := Aside0.mk (blk_below HG.out hb); clear hb gl f0 f1 f2 f3 f4 f5 f6 f7 f8 f9 f10; obtain ⟨f0, f1, f2, f3, f4, f5, f6, f7, f8, f9, f10⟩ := cells11 HG2.out; have gl := World.block_lt_of_cell? w2 _ f0; dsimp only at gl)))
    go_ret
    exact ⟨rfl, HB2.out.alloc HB2.out.size _⟩
  · have q1 : ¬ a0 ≤ 3 := by omega
    have q2 : 6 ≤ kd := by omega
    have q3 : ¬ kd ≤ 7 := by omega
    go_enter Try.func8, Try.ntmps8
    go_wp2_with (first
      | (go_at_call 10; go_loud (refine (anchor_c _).mono ?_; rintro e w1 ⟨rfl, hb⟩; have HB1 := Aside0.mk (below_step (below_alloc (Below.refl _ _) _) hb); have HG := Aside0.mk (blk_below (blk_new w _) hb); clear hb; obtain ⟨f0, f1, f2, f3, f4, f5, f6, f7, f8, f9, f10⟩ := cells11 HG.out; have gl := World.block_lt_of_cell? w1 _ f0; dsimp only at gl))
      | (go_at_call 13; go_loud ((with_reducible refine (RC.out _ (Kd.C_below HR.out HB1.out)).mono ?_); rintro e w2 ⟨rfl, hb⟩; have HB2 := Aside0.mk (HB1.out.trans (hb.mono HB1.out.size)); have HG2 := Aside0.mk (blk_below HG.out hb); clear hb gl f0 f1 f2 f3 f4 f5 f6 f7 f8 f9 f10; obtain ⟨f0, f1, f2, f3, f4, f5, f6, f7, f8, f9, f10⟩ := cells11 HG2.out; have gl := World.block_lt_of_cell? w2 _ f0; dsimp only at gl)))
    go_ret
    exact ⟨rfl, HB2.out.alloc HB2.out.size _⟩
set_option maxRecDepth 100000 in
set_option maxHeartbeats 8000000 in
theorem fields_like (a0 a1 a2 a3 a4 a5 a6 a7 a8 a9 kd os : Int) (A : Option Addr) (c : Nat) (l : List S48) (n : Nat) (hn : l.length = n) (w : World) (hr : Kd.C k48 w A n l) (hc : n ≤ c) (hn20 : n ≤ 20) (hrt : rightB a0 a1 a2 a3 a4 a5 a6 a7 a8 a9 l = true) (h5 : 0 ≤ a5 ∧ a5 < 18446744073709551616) (h9 : 0 ≤ a9 ∧ a9 < 18446744073709551616) (hk : Like a0 kd) : Calls Try.prog 8 #[.agg #[.int .i64 a0, .int .i64 a1, .int .i64 a2, .int .i64 a3, .int .i64 a4, .int .u64 a5, .int .i64 a6, .int .i64 a7, .int .i64 a8, .int .u64 a9, .slice A n c], .int .i64 kd, .int .i64 os] w fun e w' => e = .returned (.bool true) ∧ Below w.heap.size w w' := by
  have RC := Aside0.mk (fun W (h : Kd.C k48 W A n l) => right_c a0 a1 a2 a3 a4 a5 a6 a7 a8 a9 A c l W (by rw [hn]; exact h) (by omega) true hrt)
  rw [hn] at RC
  have R := right_of hrt
  have r1 := R.k1
  have r7 := R.k7
  have HR := Aside0.mk hr
  clear R
  have hc3 : (a0 ≤ 3 ∧ 1 ≤ kd ∧ kd ≤ 3) ∨ (6 ≤ a0 ∧ 6 ≤ kd ∧ kd ≤ 7) ∨ (3 < a0 ∧ a0 < 6 ∧ kd = a0) := by unfold Like at hk; omega
  by_cases ho : 0 ≤ os ∧ os ≤ 281474976710656
  · obtain ⟨o1, o2⟩ := ho
    have hqr := fields_right hrt hk o1 o2
    obtain ⟨bs, hbs⟩ : ∃ bs, encI a0 a1 a2 a3 a4 a5 a6 a7 a8 a9 l = bs := ⟨_, rfl⟩
    obtain ⟨bt, hbt⟩ : ∃ bt, encI kd a1 a2 a3 a4 a5 os a7 a8 a9 l = bt := ⟨_, rfl⟩
    have ENC := Aside0.mk (fun W (h : Kd.C k48 W A n l) => encode_r a0 a1 a2 a3 a4 a5 a6 a7 a8 a9 A c l W (by rw [hn]; exact h) (by omega) h5 h9 hrt bs hbs (79 + 9 * n) (by omega))
    have END := Aside0.mk (fun W (h : Kd.C k48 W A n l) => encode_r kd a1 a2 a3 a4 a5 os a7 a8 a9 A c l W (by rw [hn]; exact h) (by omega) h5 h9 hqr bt hbt (79 + 9 * n) (by omega))
    rw [hn] at ENC END
    obtain ⟨x, hx⟩ : ∃ x, (kd == a0) = x := ⟨_, rfl⟩
    obtain ⟨y, hy⟩ : ∃ y, (os == a6) = y := ⟨_, rfl⟩
    have hinj : bs = bt ↔ (x && y) = true := by
      rw [← hbs, ← hbt, encI_inj hrt hqr h5 h9 h5 h9, ← hx, ← hy, Bool.and_eq_true, beq_iff_eq, beq_iff_eq]
      unfold PkEq
      constructor
      · intro h; exact ⟨h.1.symm, h.2.2.2.2.2.2.1.symm⟩
      · intro h; exact ⟨h.1.symm, rfl, rfl, rfl, rfl, rfl, h.2.symm, rfl, rfl, rfl, rfl⟩
    have lbs := encI_lt (right_of hrt)
    have lbt := encI_lt (right_of hqr)
    rw [hbs] at lbs
    rw [hbt] at lbt
    obtain ⟨s, hs⟩ : ∃ s, strOfNums (iz bs) = s := ⟨_, rfl⟩
    obtain ⟨t, ht⟩ : ∃ t, strOfNums (iz bt) = t := ⟨_, rfl⟩
    have hst : (s.toList == t.toList) = (x && y) := by
      rw [← hs, ← ht, Bool.eq_iff_iff, str_inj lbs lbt, hinj]
    have HS := Aside0.mk hs
    have HT := Aside0.mk ht
    clear hr hrt hn hbs hbt hqr hinj lbs lbt hs ht h5 h9 hk
    cases x <;> cases y
    all_goals rcases hc3 with ⟨h1, h2, h3⟩ | ⟨h1, h2, h3⟩ | ⟨h1, h2, h3⟩
    case true.true.inr.inr =>
      subst h3
      have q1 : ¬ kd ≤ 3 := by omega
      have q2 : ¬ 6 ≤ kd := by omega
      go_enter Try.func8, Try.ntmps8
      go_wp2_with (first
        | (go_at_call 10; go_loud (refine (anchor_c _).mono ?_; rintro e w1 ⟨rfl, hb⟩; have HB1 := Aside0.mk (below_step (below_alloc (Below.refl _ _) _) hb); have HG := Aside0.mk (blk_below (blk_new w _) hb); clear hb; obtain ⟨f0, f1, f2, f3, f4, f5, f6, f7, f8, f9, f10⟩ := cells11 HG.out; have gl := World.block_lt_of_cell? w1 _ f0; dsimp only at gl))
        | (go_at_call 13; go_loud ((with_reducible refine (RC.out _ (Kd.C_below HR.out HB1.out)).mono ?_); rintro e w2 ⟨rfl, hb⟩; have HB2 := Aside0.mk (HB1.out.trans (hb.mono HB1.out.size)); have HG2 := Aside0.mk (blk_below HG.out hb); clear hb gl f0 f1 f2 f3 f4 f5 f6 f7 f8 f9 f10; obtain ⟨f0, f1, f2, f3, f4, f5, f6, f7, f8, f9, f10⟩ := cells11 HG2.out; have gl := World.block_lt_of_cell? w2 _ f0; dsimp only at gl))
        | (go_at_call 12; have tok1 := gl; go_loud ((with_reducible refine (ENC.out _ (Kd.C_below HR.out (HB2.out.alloc HB2.out.size _))).mono ?_); rintro e w3 ⟨g, c1, rfl, ho, hby, hcl, hge, hb⟩; have HBY := Aside0.mk hby; have HG3 := Aside0.mk (blk_below (blk_alloc HG2.out _) hb); have HQ3 := Aside0.mk (blk_below (blk_new w2 _) hb); have HB3 := Aside0.mk (below_step (below_alloc HB2.out _) hb); clear ho hby hb gl tok1 f0 f1 f2 f3 f4 f5 f6 f7 f8 f9 f10; obtain ⟨f0, f1, f2, f3, f4, f5, f6, f7, f8, f9, f10⟩ := cells11 HQ3.out))
        | (go_at_call 12; go_loud ((with_reducible refine (END.out _ (Kd.C_below HR.out HB3.out)).mono ?_); rintro e w4 ⟨g', c2, rfl, ho, hby, hcl2, hge2, hb⟩; have hcv1 := conv_str (c := c1) (HBY.out.below hb) s HS.out; have hcv2 := conv_str (c := c2) hby t HT.out; have HG4 := Aside0.mk (blk_below HG3.out hb); have HB4 := Aside0.mk (HB3.out.trans (hb.mono HB3.out.size)); clear ho hby hb f0 f1 f2 f3 f4 f5 f6 f7 f8 f9 f10; obtain ⟨f0, f1, f2, f3, f4, f5, f6, f7, f8, f9, f10⟩ := cells11 HG4.out)))
      go_ret
      exact ⟨by simp [hst, hx, hy], HB4.out⟩
    case true.false.inr.inr =>
      subst h3
      have q1 : ¬ kd ≤ 3 := by omega
      have q2 : ¬ 6 ≤ kd := by omega
      go_enter Try.func8, Try.ntmps8
      go_wp2_with (first
        | (go_at_call 10; go_loud (refine (anchor_c _).mono ?_; rintro e w1 ⟨rfl, hb⟩; have HB1 := Aside0.mk (below_step (below_alloc (Below.refl _ _) _) hb); have HG := Aside0.mk (blk_below (blk_new w _) hb); clear hb; obtain ⟨f0, f1, f2, f3, f4, f5, f6, f7, f8, f9, f10⟩ := cells11 HG.out; have gl := World.block_lt_of_cell? w1 _ f0; dsimp only at gl))
        | (go_at_call 13; go_loud ((with_reducible refine (RC.out _ (Kd.C_below HR.out HB1.out)).mono ?_); rintro e w2 ⟨rfl, hb⟩; have HB2 := Aside0.mk (HB1.out.trans (hb.mono HB1.out.size)); have HG2 := Aside0.mk (blk_below HG.out hb); clear hb gl f0 f1 f2 f3 f4 f5 f6 f7 f8 f9 f10; obtain ⟨f0, f1, f2, f3, f4, f5, f6, f7, f8, f9, f10⟩ := cells11 HG2.out; have gl := World.block_lt_of_cell? w2 _ f0; dsimp only at gl))
        | (go_at_call 12; have tok1 := gl; go_loud ((with_reducible refine (ENC.out _ (Kd.C_below HR.out (HB2.out.alloc HB2.out.size _))).mono ?_); rintro e w3 ⟨g, c1, rfl, ho, hby, hcl, hge, hb⟩; have HBY := Aside0.mk hby; have HG3 := Aside0.mk (blk_below (blk_alloc HG2.out _) hb); have HQ3 := Aside0.mk (blk_below (blk_new w2 _) hb); have HB3 := Aside0.mk (below_step (below_alloc HB2.out _) hb); clear ho hby hb gl tok1 f0 f1 f2 f3 f4 f5 f6 f7 f8 f9 f10; obtain ⟨f0, f1, f2, f3, f4, f5, f6, f7, f8, f9, f10⟩ := cells11 HQ3.out))
        | (go_at_call 12; go_loud ((with_reducible refine (END.out _ (Kd.C_below HR.out HB3.out)).mono ?_); rintro e w4 ⟨g', c2, rfl, ho, hby, hcl2, hge2, hb⟩; have hcv1 := conv_str (c := c1) (HBY.out.below hb) s HS.out; have hcv2 := conv_str (c := c2) hby t HT.out; have HG4 := Aside0.mk (blk_below HG3.out hb); have HB4 := Aside0.mk (HB3.out.trans (hb.mono HB3.out.size)); clear ho hby hb f0 f1 f2 f3 f4 f5 f6 f7 f8 f9 f10; obtain ⟨f0, f1, f2, f3, f4, f5, f6, f7, f8, f9, f10⟩ := cells11 HG4.out)))
      go_ret
      exact ⟨by simp [hst, hx, hy], HB4.out⟩
    case false.true.inr.inr => exact absurd h3 (beq_eq_false_iff_ne.mp hx)
    case false.false.inr.inr => exact absurd h3 (beq_eq_false_iff_ne.mp hx)
    all_goals (try have q1 : ¬ a0 ≤ 3 := by omega)
    all_goals
      go_enter Try.func8, Try.ntmps8
      go_wp2_with (first
        | (go_at_call 10; go_loud (refine (anchor_c _).mono ?_; rintro e w1 ⟨rfl, hb⟩; have HB1 := Aside0.mk (below_step (below_alloc (Below.refl _ _) _) hb); have HG := Aside0.mk (blk_below (blk_new w _) hb); clear hb; obtain ⟨f0, f1, f2, f3, f4, f5, f6, f7, f8, f9, f10⟩ := cells11 HG.out; have gl := World.block_lt_of_cell? w1 _ f0; dsimp only at gl))
        | (go_at_call 13; go_loud ((with_reducible refine (RC.out _ (Kd.C_below HR.out HB1.out)).mono ?_); rintro e w2 ⟨rfl, hb⟩; have HB2 := Aside0.mk (HB1.out.trans (hb.mono HB1.out.size)); have HG2 := Aside0.mk (blk_below HG.out hb); clear hb gl f0 f1 f2 f3 f4 f5 f6 f7 f8 f9 f10; obtain ⟨f0, f1, f2, f3, f4, f5, f6, f7, f8, f9, f10⟩ := cells11 HG2.out; have gl := World.block_lt_of_cell? w2 _ f0; dsimp only at gl))
        | (go_at_call 12; have tok1 := gl; go_loud ((with_reducible refine (ENC.out _ (Kd.C_below HR.out (HB2.out.alloc HB2.out.size _))).mono ?_); rintro e w3 ⟨g, c1, rfl, ho, hby, hcl, hge, hb⟩; have HBY := Aside0.mk hby; have HG3 := Aside0.mk (blk_below (blk_alloc HG2.out _) hb); have HQ3 := Aside0.mk (blk_below (blk_new w2 _) hb); have HB3 := Aside0.mk (below_step (below_alloc HB2.out _) hb); clear ho hby hb gl tok1 f0 f1 f2 f3 f4 f5 f6 f7 f8 f9 f10; obtain ⟨f0, f1, f2, f3, f4, f5, f6, f7, f8, f9, f10⟩ := cells11 HQ3.out))
        | (go_at_call 12; go_loud ((with_reducible refine (END.out _ (Kd.C_below HR.out HB3.out)).mono ?_); rintro e w4 ⟨g', c2, rfl, ho, hby, hcl2, hge2, hb⟩; have hcv1 := conv_str (c := c1) (HBY.out.below hb) s HS.out; have hcv2 := conv_str (c := c2) hby t HT.out; have HG4 := Aside0.mk (blk_below HG3.out hb); have HB4 := Aside0.mk (HB3.out.trans (hb.mono HB3.out.size)); clear ho hby hb f0 f1 f2 f3 f4 f5 f6 f7 f8 f9 f10; obtain ⟨f0, f1, f2, f3, f4, f5, f6, f7, f8, f9, f10⟩ := cells11 HG4.out)))
      go_ret
      exact ⟨by simp [hst, hx, hy], HB4.out⟩
  · have hq : os < 0 ∨ (0 ≤ os ∧ 281474976710656 < os) := by omega
    clear ho hr hrt hn h5 h9 hk
    rcases hq with g1 | ⟨g1, g2⟩
    all_goals rcases hc3 with ⟨h1, h2, h3⟩ | ⟨h1, h2, h3⟩ | ⟨h1, h2, h3⟩
    case inl.inr.inr =>
      subst h3
      have q1 : ¬ kd ≤ 3 := by omega
      have q2 : ¬ 6 ≤ kd := by omega
      go_enter Try.func8, Try.ntmps8
      go_wp2_with (first
        | (go_at_call 10; go_loud (refine (anchor_c _).mono ?_; rintro e w1 ⟨rfl, hb⟩; have HB1 := Aside0.mk (below_step (below_alloc (Below.refl _ _) _) hb); have HG := Aside0.mk (blk_below (blk_new w _) hb); clear hb; obtain ⟨f0, f1, f2, f3, f4, f5, f6, f7, f8, f9, f10⟩ := cells11 HG.out; have gl := World.block_lt_of_cell? w1 _ f0; dsimp only at gl))
        | (go_at_call 13; go_loud ((with_reducible refine (RC.out _ (Kd.C_below HR.out HB1.out)).mono ?_); rintro e w2 ⟨rfl, hb⟩; have HB2 := Aside0.mk (HB1.out.trans (hb.mono HB1.out.size)); have HG2 := Aside0.mk (blk_below HG.out hb); clear hb gl f0 f1 f2 f3 f4 f5 f6 f7 f8 f9 f10; obtain ⟨f0, f1, f2, f3, f4, f5, f6, f7, f8, f9, f10⟩ := cells11 HG2.out; have gl := World.block_lt_of_cell? w2 _ f0; dsimp only at gl)))
      go_ret
      exact ⟨rfl, HB2.out.alloc HB2.out.size _⟩
    case inr.inr.inr =>
      subst h3
      have q1 : ¬ kd ≤ 3 := by omega
      have q2 : ¬ 6 ≤ kd := by omega
      go_enter Try.func8, Try.ntmps8
      go_wp2_with (first
        | (go_at_call 10; go_loud (refine (anchor_c _).mono ?_; rintro e w1 ⟨rfl, hb⟩; have HB1 := Aside0.mk (below_step (below_alloc (Below.refl _ _) _) hb); have HG := Aside0.mk (blk_below (blk_new w _) hb); clear hb; obtain ⟨f0, f1, f2, f3, f4, f5, f6, f7, f8, f9, f10⟩ := cells11 HG.out; have gl := World.block_lt_of_cell? w1 _ f0; dsimp only at gl))
        | (go_at_call 13; go_loud ((with_reducible refine (RC.out _ (Kd.C_below HR.out HB1.out)).mono ?_); rintro e w2 ⟨rfl, hb⟩; have HB2 := Aside0.mk (HB1.out.trans (hb.mono HB1.out.size)); have HG2 := Aside0.mk (blk_below HG.out hb); clear hb gl f0 f1 f2 f3 f4 f5 f6 f7 f8 f9 f10; obtain ⟨f0, f1, f2, f3, f4, f5, f6, f7, f8, f9, f10⟩ := cells11 HG2.out; have gl := World.block_lt_of_cell? w2 _ f0; dsimp only at gl)))
      go_ret
      exact ⟨rfl, HB2.out.alloc HB2.out.size _⟩
    all_goals (try have q1 : ¬ a0 ≤ 3 := by omega)
    all_goals
      go_enter Try.func8, Try.ntmps8
      go_wp2_with (first
        | (go_at_call 10; go_loud (refine (anchor_c _).mono ?_; rintro e w1 ⟨rfl, hb⟩; have HB1 := Aside0.mk (below_step (below_alloc (Below.refl _ _) _) hb); have HG := Aside0.mk (blk_below (blk_new w _) hb); clear hb; obtain ⟨f0, f1, f2, f3, f4, f5, f6, f7, f8, f9, f10⟩ := cells11 HG.out; have gl := World.block_lt_of_cell? w1 _ f0; dsimp only at gl))
        | (go_at_call 13; go_loud ((with_reducible refine (RC.out _ (Kd.C_below HR.out HB1.out)).mono ?_); rintro e w2 ⟨rfl, hb⟩; have HB2 := Aside0.mk (HB1.out.trans (hb.mono HB1.out.size)); have HG2 := Aside0.mk (blk_below HG.out hb); clear hb gl f0 f1 f2 f3 f4 f5 f6 f7 f8 f9 f10; obtain ⟨f0, f1, f2, f3, f4, f5, f6, f7, f8, f9, f10⟩ := cells11 HG2.out; have gl := World.block_lt_of_cell? w2 _ f0; dsimp only at gl)))
      go_ret
      exact ⟨rfl, HB2.out.alloc HB2.out.size _⟩
theorem fields_calls (a0 a1 a2 a3 a4 a5 a6 a7 a8 a9 : Int) (A : Option Addr) (c : Nat) (l : List S48) (w : World) (hr : Kd.C k48 w A l.length l) (hc : l.length ≤ c) (h5 : 0 ≤ a5 ∧ a5 < 18446744073709551616) (h9 : 0 ≤ a9 ∧ a9 < 18446744073709551616) (kd os : Int) :
    Calls Try.prog 8 #[.agg #[.int .i64 a0, .int .i64 a1, .int .i64 a2, .int .i64 a3, .int .i64 a4, .int .u64 a5, .int .i64 a6, .int .i64 a7, .int .i64 a8, .int .u64 a9, .slice A l.length c], .int .i64 kd, .int .i64 os] w fun e w' => e = .returned (.bool true) ∧ Below w.heap.size w w' := by
  by_cases h1 : l.length ≤ 20
  · cases ha : rightB a0 a1 a2 a3 a4 a5 a6 a7 a8 a9 l with
    | true =>
      by_cases hk : Like a0 kd
      · exact fields_like a0 a1 a2 a3 a4 a5 a6 a7 a8 a9 kd os A c l _ rfl w hr hc h1 ha h5 h9 hk
      · exact fields_unlike a0 a1 a2 a3 a4 a5 a6 a7 a8 a9 kd os A c l _ rfl w hr hc h1 ha hk
    | false => exact fields_wrong a0 a1 a2 a3 a4 a5 a6 a7 a8 a9 kd os A c l _ rfl w hr hc h1 ha
  · exact fields_out a0 a1 a2 a3 a4 a5 a6 a7 a8 a9 kd os A c l _ rfl w hr hc (by omega)
end Go.Proofs.Ytldiipomcenbkaa.Qw
