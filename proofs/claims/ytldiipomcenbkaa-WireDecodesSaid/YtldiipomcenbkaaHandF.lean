/- wire.Encode, whatever the packet. -/
import Derived.Test.YtldiipomcenbkaaHandD
namespace Go.Proofs.Ytldiipomcenbkaa.Qw
open Go.RowKit Go.Proofs.YtldiipomcenbkaaW.PrintWords Go.Proofs.YtldiipomcenbkaaW.PrintLast Go.Proofs.YtldiipomcenbkaaW.PrintMore
open HandS (Bytes byte_at add_block)
set_option linter.unusedVariables false
set_option linter.unusedSimpArgs false
theorem secB_ok (fr : Int) : ∀ (l seen : List S48), secB fr seen l = true → ∀ x ∈ l, okEntry fr x = true := by
  intro l
  induction l with
  | nil => intro _ _ x hx; cases hx
  | cons y l ih =>
    intro seen h x hx
    unfold secB at h
    simp only [Bool.and_eq_true] at h
    rcases List.mem_cons.1 hx with rfl | hx
    · exact h.1.1
    · exact ih _ h.2 x hx
theorem okEntry_of {fr : Int} {x : S48} (h : okEntry fr x = true) : 1 ≤ x.f0 ∧ x.f0 ≤ 4294967296 ∧ x.f0 ≠ fr ∧ 0 ≤ x.f1 ∧ x.f1 ≤ 2 := by
  unfold okEntry idB at h
  simp only [Bool.and_eq_true, decide_eq_true_eq, Bool.not_eq_true', decide_eq_false_iff_not, beq_eq_false_iff_ne] at h
  exact ⟨h.1.1.1.1, h.1.1.1.2, h.1.1.2, by omega, by omega⟩
structure RightOf (a0 a1 a2 a3 a4 a5 a6 a7 a8 a9 : Int) (l : List S48) : Prop where
  k1 : 1 ≤ a0
  k7 : a0 ≤ 7
  f1 : 1 ≤ a1
  f2 : a1 ≤ 4294967296
  e0 : 0 ≤ a2
  e1 : a2 ≤ 281474976710656
  c0 : 0 ≤ a3
  c1 : a3 ≤ a2
  m0 : 0 ≤ a4
  m1 : a4 ≤ 4294967296
  o0 : 0 ≤ a6
  o1 : a6 ≤ 281474976710656
  b0 : 0 ≤ a7
  b1 : a7 ≤ 4294967296
  g0 : 0 ≤ a8
  g1 : a8 ≤ 281474976710656
  sec : ∀ x ∈ l, 1 ≤ x.f0 ∧ x.f0 ≤ 4294967296 ∧ x.f0 ≠ a1 ∧ 0 ≤ x.f1 ∧ x.f1 ≤ 2
  len : l.length ≤ 3
theorem idB_of {n : Int} (h : idB n = true) : 1 ≤ n ∧ n ≤ 4294967296 := by
  unfold idB at h
  simpa using h
theorem epB_of {n : Int} (h : epB n = true) : 0 ≤ n ∧ n ≤ 281474976710656 := by
  unfold epB at h
  simpa using h
theorem right_of {a0 a1 a2 a3 a4 a5 a6 a7 a8 a9 : Int} {l : List S48} (h : rightB a0 a1 a2 a3 a4 a5 a6 a7 a8 a9 l = true) : RightOf a0 a1 a2 a3 a4 a5 a6 a7 a8 a9 l := by
  unfold rightB at h
  simp only [Bool.and_eq_true, decide_eq_true_eq] at h
  obtain ⟨⟨⟨⟨⟨⟨⟨k1, k7⟩, hf⟩, ⟨⟨he, c0⟩, c1⟩⟩, hm⟩, ho⟩, ha⟩, hs, hz⟩ := h
  have hf := idB_of hf
  have he := epB_of he
  have ho := epB_of ho
  have hm2 : 0 ≤ a4 ∧ a4 ≤ 4294967296 := by
    unfold masterB at hm
    simp only [Bool.or_eq_true, beq_iff_eq, Bool.and_eq_true] at hm
    rcases hm with h | h
    · omega
    · have := idB_of h.1.1; omega
  have hb : (0 ≤ a7 ∧ a7 ≤ 4294967296) ∧ (0 ≤ a8 ∧ a8 ≤ 281474976710656) := by
    unfold aboutB at ha
    split at ha
    · simp only [Bool.and_eq_true] at ha
      have := idB_of ha.1; have := epB_of ha.2; omega
    · split at ha
      · simp only [Bool.and_eq_true, beq_iff_eq] at ha
        have := idB_of ha.1.1; omega
      · simp only [Bool.and_eq_true, beq_iff_eq] at ha
        omega
  have hl : l.length ≤ 3 := by
    unfold sizeB at hz
    simp only [Bool.or_eq_true, decide_eq_true_eq, Bool.and_eq_true] at hz
    omega
  exact ⟨k1, k7, hf.1, hf.2, he.1, he.2, c0, c1, hm2.1, hm2.2, ho.1, ho.2, hb.1.1, hb.1.2, hb.2.1, hb.2.2, fun x hx => okEntry_of (secB_ok a1 l [] hs x hx), hl⟩
/-- A packet's bytes. -/
def encI (a0 a1 a2 a3 a4 a5 a6 a7 a8 a9 : Int) (l : List S48) : List Nat := enc a0.toNat a1.toNat a2.toNat a3.toNat a4.toNat a5.toNat a6.toNat a7.toNat a8.toNat a9.toNat l
/-- What Encode answers. -/
def EncPost (r : Bool) (bs : List Nat) (w : World) (e : Ending) (w' : World) : Prop :=
  match r with
  | true => ∃ v, e = .returned (.tuple #[v, .int .i64 0]) ∧ Own w w' v bs ∧ Below w.heap.size w w'
  | false => e = .returned (.tuple #[.slice none 0 0, .int .i64 10]) ∧ Below w.heap.size w w'
set_option maxRecDepth 100000 in
set_option maxHeartbeats 2000000 in
theorem encode_no (a0 a1 a2 a3 a4 a5 a6 a7 a8 a9 : Int) (A : Option Addr) (c : Nat) (l : List S48) (w : World) (hr : Kd.C k48 w A l.length l) (hc : l.length ≤ c) (hrt : rightB a0 a1 a2 a3 a4 a5 a6 a7 a8 a9 l = false) :
    Calls Try.prog 12 #[.agg #[.int .i64 a0, .int .i64 a1, .int .i64 a2, .int .i64 a3, .int .i64 a4, .int .u64 a5, .int .i64 a6, .int .i64 a7, .int .i64 a8, .int .u64 a9, .slice A l.length c]] w fun e w' => e = .returned (.tuple #[.slice none 0 0, .int .i64 10]) ∧ Below w.heap.size w w' := by
  have RC := Aside0.mk (fun W (h : Kd.C k48 W A l.length l) => right_c a0 a1 a2 a3 a4 a5 a6 a7 a8 a9 A c l W h hc false hrt)
  have HR := Aside0.mk hr
  clear hr hrt
  go_enter Try.func12, Try.ntmps12
  go_wp2_with (go_at_call 13; go_loud (refine (RC.out _ (Kd.C_alloc HR.out _)).mono ?_; rintro e w1 ⟨rfl, hb⟩; have HB1 := Aside0.mk (below_step (below_alloc (Below.refl _ _) _) hb); clear hb))
  go_ret2
  exact ⟨rfl, HB1.out⟩
theorem encode_c (a0 a1 a2 a3 a4 a5 a6 a7 a8 a9 : Int) (A : Option Addr) (c : Nat) (l : List S48) (w : World) (hr : Kd.C k48 w A l.length l) (hc : l.length ≤ c) (h5 : 0 ≤ a5 ∧ a5 < 18446744073709551616) (h9 : 0 ≤ a9 ∧ a9 < 18446744073709551616) (r : Bool) (hrt : rightB a0 a1 a2 a3 a4 a5 a6 a7 a8 a9 l = r) :
    Calls Try.prog 12 #[.agg #[.int .i64 a0, .int .i64 a1, .int .i64 a2, .int .i64 a3, .int .i64 a4, .int .u64 a5, .int .i64 a6, .int .i64 a7, .int .i64 a8, .int .u64 a9, .slice A l.length c]] w (EncPost r (encI a0 a1 a2 a3 a4 a5 a6 a7 a8 a9 l) w) := by
  cases r with
  | false => exact encode_no a0 a1 a2 a3 a4 a5 a6 a7 a8 a9 A c l w hr hc hrt
  | true =>
    have R := right_of hrt
    have k7 := R.k7; have k1 := R.k1; have f1 := R.f1; have f2 := R.f2; have e0 := R.e0; have e1 := R.e1; have c0 := R.c0; have c1 := R.c1; have m0 := R.m0; have m1 := R.m1
    have o0 := R.o0; have o1 := R.o1; have b0 := R.b0; have b1 := R.b1; have g0 := R.g0; have g1 := R.g1
    have hsec := R.sec
    have hlen := R.len
    clear R
    have x0 : ((a0.toNat : Nat) : Int) = a0 := by omega
    have x1 : ((a1.toNat : Nat) : Int) = a1 := by omega
    have x2 : ((a2.toNat : Nat) : Int) = a2 := by omega
    have x3 : ((a3.toNat : Nat) : Int) = a3 := by omega
    have x4 : ((a4.toNat : Nat) : Int) = a4 := by omega
    have x5 : ((a5.toNat : Nat) : Int) = a5 := by omega
    have x6 : ((a6.toNat : Nat) : Int) = a6 := by omega
    have x7 : ((a7.toNat : Nat) : Int) = a7 := by omega
    have x8 : ((a8.toNat : Nat) : Int) = a8 := by omega
    have x9 : ((a9.toNat : Nat) : Int) = a9 := by omega
    have := encode_yes a0.toNat a1.toNat a2.toNat a3.toNat a4.toNat a5.toNat a6.toNat a7.toNat a8.toNat a9.toNat A c l w hr hc (by rw [x0, x1, x2, x3, x4, x5, x6, x7, x8, x9]; exact hrt) (by omega) (by omega) (by omega) (by omega) (by omega) (by omega) (by omega) (by omega) (by omega) (by omega) hlen (fun x hx => by have := hsec x hx; omega)
    rw [x0, x1, x2, x3, x4, x5, x6, x7, x8, x9] at this
    exact this
end Go.Proofs.Ytldiipomcenbkaa.Qw
