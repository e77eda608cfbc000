/- The plain law: what was written is read. -/
import Derived.Test.YtldiipomcenbkaaHandF
namespace Go.Proofs.Ytldiipomcenbkaa.Qw
open Go.RowKit Go.Proofs.YtldiipomcenbkaaW.PrintWords Go.Proofs.YtldiipomcenbkaaW.PrintLast Go.Proofs.YtldiipomcenbkaaW.PrintMore
open HandS (Bytes byte_at add_block)
set_option linter.unusedVariables false
set_option linter.unusedSimpArgs false
theorem num8_e8 (n : Nat) (h : n < 18446744073709551616) (t : List Nat) : num8 (e8 n ++ t) = n := by
  have ht : (e8 n ++ t).take 8 = e8 n := rfl
  unfold num8
  rw [ht]
  unfold e8 fold8
  simp only [List.foldl_cons, List.foldl_nil]
  omega
theorem i64_of (n : Int) (h0 : 0 ≤ n) (h1 : n < 9223372036854775808) : i64 n.toNat = n := by
  unfold i64
  rw [HandC.wrap_i64]
  omega
/-- The bytes, one behind the other. -/
def tailOf (l : List S48) (s : List Nat) : List Nat := l.flatMap ent ++ s
theorem enc_eq (n0 n1 n2 n3 n4 n5 n6 n7 n8 n9 : Nat) (l : List S48) : enc n0 n1 n2 n3 n4 n5 n6 n7 n8 n9 l = [71, 86, 1, n0] ++ (e8 n1 ++ (e8 n2 ++ (e8 n3 ++ (e8 n4 ++ (e8 n5 ++ (e8 n6 ++ (e8 n7 ++ (e8 n8 ++ (e8 n9 ++ (l.length :: tailOf l (sum16 (body n0 n1 n2 n3 n4 n5 n6 n7 n8 n9 l)))))))))))) := by
  unfold enc
  obtain ⟨s, hs⟩ : ∃ s, sum16 (body n0 n1 n2 n3 n4 n5 n6 n7 n8 n9 l) = s := ⟨_, rfl⟩
  rw [hs]
  unfold body nums tailOf
  simp only [List.append_assoc, List.cons_append, List.nil_append]
theorem sec_three (b : List Nat) (l : List S48) (s : List Nat) (hb : b.drop 77 = tailOf l s) (hm : b.getD 76 0 = l.length) (hl : l.length ≤ 3) (he : ∀ x ∈ l, 0 ≤ x.f0 ∧ x.f0 ≤ 4294967296 ∧ 0 ≤ x.f1 ∧ x.f1 ≤ 2) : secOf b = l := by
  have hd : ∀ i, entAt b i = ⟨i64 (num8 ((tailOf l s).drop (9 * i))), ((tailOf l s).getD (8 + 9 * i) 0 : Nat)⟩ := by
    intro i
    unfold entAt
    rw [← hb, List.drop_drop, List.getD_eq_getElem?_getD, List.getD_eq_getElem?_getD, List.getElem?_drop]
    congr 4
    omega
  have he1 : ∀ (x : S48) (t : List Nat), 0 ≤ x.f0 ∧ x.f0 ≤ 4294967296 ∧ 0 ≤ x.f1 ∧ x.f1 ≤ 2 → (⟨i64 (num8 (e8 x.f0.toNat ++ t)), (x.f1.toNat : Nat)⟩ : S48) = x := by
    intro x t hx
    rw [num8_e8 _ (by omega), i64_of x.f0 hx.1 (by omega), show ((x.f1.toNat : Nat) : Int) = x.f1 by omega]
  unfold secOf
  rw [hm]
  match l, hl, he, hd with
  | [], _, _, _ => rfl
  | [x], _, he, hd =>
    show [entAt b 0] = [x]
    rw [hd 0]
    exact congrArg (fun z => [z]) (he1 x _ (he x (by simp)))
  | [x, y], _, he, hd =>
    show [entAt b 0, entAt b 1] = [x, y]
    rw [hd 0, hd 1]
    have h1 := he1 x (x.f1.toNat :: (ent y ++ s)) (he x (by simp))
    have h2 := he1 y (y.f1.toNat :: s) (he y (by simp))
    exact (congrArg (fun z => [z, _]) h1).trans (congrArg (fun z => [x, z]) h2)
  | [x, y, z], _, he, hd =>
    show [entAt b 0, entAt b 1, entAt b 2] = [x, y, z]
    rw [hd 0, hd 1, hd 2]
    have h1 := he1 x (x.f1.toNat :: (ent y ++ (ent z ++ s))) (he x (by simp))
    have h2 := he1 y (y.f1.toNat :: (ent z ++ s)) (he y (by simp))
    have h3 := he1 z (z.f1.toNat :: s) (he z (by simp))
    exact (congrArg (fun q => [q, _, _]) h1).trans ((congrArg (fun q => [x, q, _]) h2).trans (congrArg (fun q => [x, y, q]) h3))
  | _ :: _ :: _ :: _ :: _, hl, _, _ => exact absurd hl (by simp)
theorem enc_length (n0 n1 n2 n3 n4 n5 n6 n7 n8 n9 : Nat) (l : List S48) : (enc n0 n1 n2 n3 n4 n5 n6 n7 n8 n9 l).length = 79 + 9 * l.length := by
  unfold enc
  rw [List.length_append, body_length]
  show 77 + 9 * l.length + 2 = _
  omega
theorem sum16_lt (b : List Nat) (hb : ∀ x ∈ b, x < 256) : ∀ x ∈ sum16 b, x < 256 := by
  intro x hx
  have := HandC.crc_lt b 0 (by decide) hb
  unfold sum16 at hx
  simp only [List.mem_cons, List.not_mem_nil, or_false] at hx
  omega
theorem enc_lt (n0 n1 n2 n3 n4 n5 n6 n7 n8 n9 : Nat) (l : List S48) (h0 : n0 < 256) (hl : l.length < 256) (he : ∀ x ∈ l, x.f1.toNat < 256) : ∀ x ∈ enc n0 n1 n2 n3 n4 n5 n6 n7 n8 n9 l, x < 256 := by
  intro x hx
  have hb := body_lt n0 n1 n2 n3 n4 n5 n6 n7 n8 n9 l h0 hl he
  rcases List.mem_append.1 hx with h | h
  · exact hb x h
  · exact sum16_lt _ hb x h
theorem enc_frame (n0 n1 n2 n3 n4 n5 n6 n7 n8 n9 : Nat) (l : List S48) (h1 : 1 ≤ n0) (h7 : n0 ≤ 7) (hl : l.length ≤ 3) (he : ∀ x ∈ l, x.f1.toNat < 256) : frameN (enc n0 n1 n2 n3 n4 n5 n6 n7 n8 n9 l) = 0 := by
  have hb := body_lt n0 n1 n2 n3 n4 n5 n6 n7 n8 n9 l (by omega) (by omega) he
  have hc := HandC.crc_lt _ 0 (by decide) hb
  have hlen := enc_length n0 n1 n2 n3 n4 n5 n6 n7 n8 n9 l
  have g0 : (enc n0 n1 n2 n3 n4 n5 n6 n7 n8 n9 l).getD 0 0 = 71 := by rw [enc_eq]; rfl
  have g1 : (enc n0 n1 n2 n3 n4 n5 n6 n7 n8 n9 l).getD 1 0 = 86 := by rw [enc_eq]; rfl
  have g2 : (enc n0 n1 n2 n3 n4 n5 n6 n7 n8 n9 l).getD 2 0 = 1 := by rw [enc_eq]; rfl
  have g3 : (enc n0 n1 n2 n3 n4 n5 n6 n7 n8 n9 l).getD 3 0 = n0 := by rw [enc_eq]; rfl
  have g76 : (enc n0 n1 n2 n3 n4 n5 n6 n7 n8 n9 l).getD 76 0 = l.length := by rw [enc_eq]; rfl
  have hbl := body_length n0 n1 n2 n3 n4 n5 n6 n7 n8 n9 l
  have gt : (enc n0 n1 n2 n3 n4 n5 n6 n7 n8 n9 l).take (79 + 9 * l.length - 2) = body n0 n1 n2 n3 n4 n5 n6 n7 n8 n9 l := by
    unfold enc
    rw [show 79 + 9 * l.length - 2 = (body n0 n1 n2 n3 n4 n5 n6 n7 n8 n9 l).length by omega]
    exact List.take_left' rfl
  have gy : (enc n0 n1 n2 n3 n4 n5 n6 n7 n8 n9 l).getD (79 + 9 * l.length - 2) 0 = HandC.crc 0 (body n0 n1 n2 n3 n4 n5 n6 n7 n8 n9 l) / 256 := by
    unfold enc
    rw [List.getD_eq_getElem?_getD, List.getElem?_append_right (by omega), show 79 + 9 * l.length - 2 - (body n0 n1 n2 n3 n4 n5 n6 n7 n8 n9 l).length = 0 by omega]
    rfl
  have gz : (enc n0 n1 n2 n3 n4 n5 n6 n7 n8 n9 l).getD (79 + 9 * l.length - 1) 0 = HandC.crc 0 (body n0 n1 n2 n3 n4 n5 n6 n7 n8 n9 l) % 256 := by
    unfold enc
    rw [List.getD_eq_getElem?_getD, List.getElem?_append_right (by omega), show 79 + 9 * l.length - 1 - (body n0 n1 n2 n3 n4 n5 n6 n7 n8 n9 l).length = 1 by omega]
    rfl
  unfold frameN
  rw [hlen, g0, g1, g2, g3, g76, gt, gy, gz]
  rw [if_neg (by omega), if_neg (by decide), if_neg (by simp; omega), if_neg (by omega), if_neg (by omega), if_neg (by omega), if_neg (by omega), if_neg (by omega)]
section
variable {a0 a1 a2 a3 a4 a5 a6 a7 a8 a9 : Int} {l : List S48}
theorem encI_length : (encI a0 a1 a2 a3 a4 a5 a6 a7 a8 a9 l).length = 79 + 9 * l.length := enc_length _ _ _ _ _ _ _ _ _ _ l
theorem encI_lt (R : RightOf a0 a1 a2 a3 a4 a5 a6 a7 a8 a9 l) : ∀ x ∈ encI a0 a1 a2 a3 a4 a5 a6 a7 a8 a9 l, x < 256 :=
  enc_lt _ _ _ _ _ _ _ _ _ _ l (by have := R.k7; omega) (by have := R.len; omega) (fun x hx => by have := R.sec x hx; omega)
theorem encI_frame (R : RightOf a0 a1 a2 a3 a4 a5 a6 a7 a8 a9 l) : frameN (encI a0 a1 a2 a3 a4 a5 a6 a7 a8 a9 l) = 0 :=
  enc_frame _ _ _ _ _ _ _ _ _ _ l (by have := R.k1; omega) (by have := R.k7; omega) R.len (fun x hx => by have := R.sec x hx; omega)
theorem encI_3 (R : RightOf a0 a1 a2 a3 a4 a5 a6 a7 a8 a9 l) : ((encI a0 a1 a2 a3 a4 a5 a6 a7 a8 a9 l).getD 3 0 : Int) = a0 := by
  have : (encI a0 a1 a2 a3 a4 a5 a6 a7 a8 a9 l).getD 3 0 = a0.toNat := by unfold encI; rw [enc_eq]; rfl
  rw [this]
  have := R.k1
  omega
theorem fld_0 (h : a1.toNat < 18446744073709551616) : fld (encI a0 a1 a2 a3 a4 a5 a6 a7 a8 a9 l) 0 = a1.toNat := by unfold encI fld; rw [enc_eq]; exact num8_e8 _ h _
theorem fld_1 (h : a2.toNat < 18446744073709551616) : fld (encI a0 a1 a2 a3 a4 a5 a6 a7 a8 a9 l) 1 = a2.toNat := by unfold encI fld; rw [enc_eq]; exact num8_e8 _ h _
theorem fld_2 (h : a3.toNat < 18446744073709551616) : fld (encI a0 a1 a2 a3 a4 a5 a6 a7 a8 a9 l) 2 = a3.toNat := by unfold encI fld; rw [enc_eq]; exact num8_e8 _ h _
theorem fld_3 (h : a4.toNat < 18446744073709551616) : fld (encI a0 a1 a2 a3 a4 a5 a6 a7 a8 a9 l) 3 = a4.toNat := by unfold encI fld; rw [enc_eq]; exact num8_e8 _ h _
theorem fld_4 (h : a5.toNat < 18446744073709551616) : fld (encI a0 a1 a2 a3 a4 a5 a6 a7 a8 a9 l) 4 = a5.toNat := by unfold encI fld; rw [enc_eq]; exact num8_e8 _ h _
theorem fld_5 (h : a6.toNat < 18446744073709551616) : fld (encI a0 a1 a2 a3 a4 a5 a6 a7 a8 a9 l) 5 = a6.toNat := by unfold encI fld; rw [enc_eq]; exact num8_e8 _ h _
theorem fld_6 (h : a7.toNat < 18446744073709551616) : fld (encI a0 a1 a2 a3 a4 a5 a6 a7 a8 a9 l) 6 = a7.toNat := by unfold encI fld; rw [enc_eq]; exact num8_e8 _ h _
theorem fld_7 (h : a8.toNat < 18446744073709551616) : fld (encI a0 a1 a2 a3 a4 a5 a6 a7 a8 a9 l) 7 = a8.toNat := by unfold encI fld; rw [enc_eq]; exact num8_e8 _ h _
theorem fld_8 (h : a9.toNat < 18446744073709551616) : fld (encI a0 a1 a2 a3 a4 a5 a6 a7 a8 a9 l) 8 = a9.toNat := by unfold encI fld; rw [enc_eq]; exact num8_e8 _ h _
theorem encI_sec (R : RightOf a0 a1 a2 a3 a4 a5 a6 a7 a8 a9 l) : secOf (encI a0 a1 a2 a3 a4 a5 a6 a7 a8 a9 l) = l := by
  refine sec_three _ l (sum16 (body a0.toNat a1.toNat a2.toNat a3.toNat a4.toNat a5.toNat a6.toNat a7.toNat a8.toNat a9.toNat l)) ?_ ?_ R.len (fun x hx => by have := R.sec x hx; omega)
  · unfold encI; rw [enc_eq]; rfl
  · unfold encI; rw [enc_eq]; rfl
end
/-- What Decode answers of a right packet's bytes. -/
def DecEq (a0 a1 a2 a3 a4 a5 a6 a7 a8 a9 : Int) (l : List S48) (w : World) (e : Ending) (w' : World) : Prop :=
  ∃ v, e = .returned (.tuple #[.agg #[.int .i64 a0, .int .i64 a1, .int .i64 a2, .int .i64 a3, .int .i64 a4, .int .u64 a5, .int .i64 a6, .int .i64 a7, .int .i64 a8, .int .u64 a9, v], .int .i64 0]) ∧ Kd.R k48 48 w' w.heap.size (fun _ => True) v l ∧ Below w.heap.size w w'
theorem decode_enc (a0 a1 a2 a3 a4 a5 a6 a7 a8 a9 : Int) (l : List S48) (hrt : rightB a0 a1 a2 a3 a4 a5 a6 a7 a8 a9 l = true) (h5 : 0 ≤ a5 ∧ a5 < 18446744073709551616) (h9 : 0 ≤ a9 ∧ a9 < 18446744073709551616)
    (a : Option Addr) (cap len : Nat) (w : World) (hl : Bytes w a len (encI a0 a1 a2 a3 a4 a5 a6 a7 a8 a9 l)) (hc : len ≤ cap) :
    Calls Try.prog 15 #[.slice a len cap] w (DecEq a0 a1 a2 a3 a4 a5 a6 a7 a8 a9 l w) := by
  have R := right_of hrt
  have k1 := R.k1; have k7 := R.k7; have f1 := R.f1; have f2 := R.f2; have e0 := R.e0; have e1 := R.e1; have c0 := R.c0; have c1 := R.c1; have m0 := R.m0; have m1 := R.m1
  have o0 := R.o0; have o1 := R.o1; have b0 := R.b0; have b1 := R.b1; have g0 := R.g0; have g1 := R.g1
  have q3 := encI_3 R
  have q1 : i64 (fld (encI a0 a1 a2 a3 a4 a5 a6 a7 a8 a9 l) 0) = a1 := by rw [fld_0 (by omega)]; exact i64_of _ (by omega) (by omega)
  have q2 : i64 (fld (encI a0 a1 a2 a3 a4 a5 a6 a7 a8 a9 l) 1) = a2 := by rw [fld_1 (by omega)]; exact i64_of _ (by omega) (by omega)
  have q4 : i64 (fld (encI a0 a1 a2 a3 a4 a5 a6 a7 a8 a9 l) 2) = a3 := by rw [fld_2 (by omega)]; exact i64_of _ (by omega) (by omega)
  have q5 : i64 (fld (encI a0 a1 a2 a3 a4 a5 a6 a7 a8 a9 l) 3) = a4 := by rw [fld_3 (by omega)]; exact i64_of _ (by omega) (by omega)
  have q6 : ((fld (encI a0 a1 a2 a3 a4 a5 a6 a7 a8 a9 l) 4 : Nat) : Int) = a5 := by rw [fld_4 (by omega)]; omega
  have q7 : i64 (fld (encI a0 a1 a2 a3 a4 a5 a6 a7 a8 a9 l) 5) = a6 := by rw [fld_5 (by omega)]; exact i64_of _ (by omega) (by omega)
  have q8 : i64 (fld (encI a0 a1 a2 a3 a4 a5 a6 a7 a8 a9 l) 6) = a7 := by rw [fld_6 (by omega)]; exact i64_of _ (by omega) (by omega)
  have q9 : i64 (fld (encI a0 a1 a2 a3 a4 a5 a6 a7 a8 a9 l) 7) = a8 := by rw [fld_7 (by omega)]; exact i64_of _ (by omega) (by omega)
  have q10 : ((fld (encI a0 a1 a2 a3 a4 a5 a6 a7 a8 a9 l) 8 : Nat) : Int) = a9 := by rw [fld_8 (by omega)]; omega
  have qs := encI_sec R
  have hd : rightD (encI a0 a1 a2 a3 a4 a5 a6 a7 a8 a9 l) = true := by
    unfold rightD
    rw [q1, q2, q4, q5, q6, q7, q8, q9, q10, qs]
    exact (congrArg (fun z => rightB z a1 a2 a3 a4 a5 a6 a7 a8 a9 l) q3).trans hrt
  refine (decode_ok a cap len _ w hl hc (encI_frame R) true hd).mono ?_
  rintro e w' ⟨v, h1, h2, h3⟩
  rw [q1, q2, q4, q5, q6, q7, q8, q9, q10] at h1
  rw [qs] at h2
  exact ⟨v, h1.trans (by rw [show (((encI a0 a1 a2 a3 a4 a5 a6 a7 a8 a9 l).getD 3 0 : Nat) : Int) = a0 from q3]), h2, h3⟩
end Go.Proofs.Ytldiipomcenbkaa.Qw
