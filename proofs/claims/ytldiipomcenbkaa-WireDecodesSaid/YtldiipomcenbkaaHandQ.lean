/- The example; the law on sizes. -/
import Derived.Test.YtldiipomcenbkaaHandP
import Derived.Deep.QuietTactic
import Derived.BigQuiet
namespace Go.Proofs.Ytldiipomcenbkaa.Qw
open Go.RowKit Go.Proofs.YtldiipomcenbkaaW.PrintWords Go.Proofs.YtldiipomcenbkaaW.PrintLast Go.Proofs.YtldiipomcenbkaaW.PrintMore
open HandS (Bytes byte_at add_block)
set_option linter.unusedVariables false
set_option linter.unusedSimpArgs false
theorem add_zero_at (g i : Nat) : (⟨g, 0, none⟩ : Addr).add i = ⟨g, i, none⟩ := by unfold Addr.add; split <;> simp_all
/-- What Encode answers of a right packet. -/
def EncYes (bs : List Nat) (n : Nat) (w : World) (e : Ending) (w' : World) : Prop :=
  ∃ g c, e = .returned (.tuple #[.slice (some ⟨g, 0, none⟩) n c, .int .i64 0]) ∧ Own w w' (.slice (some ⟨g, 0, none⟩) n c) bs ∧ Bytes w' (some ⟨g, 0, none⟩) n bs ∧ n ≤ c ∧ w.heap.size ≤ g ∧ Below w.heap.size w w'
theorem own_form {w0 w : World} {v : Value} {xs : List Nat} (h : Own w0 w v xs) (h0 : 0 < xs.length) : ∃ g c, v = .slice (some ⟨g, 0, none⟩) xs.length c ∧ xs.length ≤ c ∧ w0.heap.size ≤ g := by
  rcases (own_row h).2 with ⟨rfl, h1⟩ | ⟨g, cap, cur, rfl, hb, hg, h1, h2, h3, h4⟩
  · omega
  · exact ⟨g, cap, rfl, h1, hb⟩
theorem encode_r (a0 a1 a2 a3 a4 a5 a6 a7 a8 a9 : Int) (A : Option Addr) (c : Nat) (l : List S48) (w : World) (hr : Kd.C k48 w A l.length l) (hc : l.length ≤ c) (h5 : 0 ≤ a5 ∧ a5 < 18446744073709551616) (h9 : 0 ≤ a9 ∧ a9 < 18446744073709551616) (hrt : rightB a0 a1 a2 a3 a4 a5 a6 a7 a8 a9 l = true)
    (bs : List Nat) (hbs : encI a0 a1 a2 a3 a4 a5 a6 a7 a8 a9 l = bs) (n : Nat) (hn : 79 + 9 * l.length = n) :
    Calls Try.prog 12 #[.agg #[.int .i64 a0, .int .i64 a1, .int .i64 a2, .int .i64 a3, .int .i64 a4, .int .u64 a5, .int .i64 a6, .int .i64 a7, .int .i64 a8, .int .u64 a9, .slice A l.length c]] w (EncYes bs n w) := by
  refine (encode_c a0 a1 a2 a3 a4 a5 a6 a7 a8 a9 A c l w hr hc h5 h9 true hrt).mono ?_
  rintro e w' ⟨v, h1, h2, h3⟩
  have hlt := encI_lt (right_of hrt)
  have hlen : (encI a0 a1 a2 a3 a4 a5 a6 a7 a8 a9 l).length = n := by rw [encI_length, hn]
  rw [hbs] at h2 hlt hlen
  obtain ⟨g, c', rfl, hle, hge⟩ := own_form h2 (by omega)
  obtain ⟨a', c2, hv, hby, _⟩ := own_bytes h2 hlt
  rw [hlen] at hv hby hle h1 h2
  injection hv with e1 e2 e3
  subst e1
  exact ⟨g, c', h1, h2, hby, hle, hge, h3⟩
/-- What Decode answers of a right packet's bytes. -/
def DecYes (a0 a1 a2 a3 a4 a5 a6 a7 a8 a9 : Int) (l : List S48) (k : Nat) (w : World) (e : Ending) (w' : World) : Prop :=
  ∃ A c, e = .returned (.tuple #[.agg #[.int .i64 a0, .int .i64 a1, .int .i64 a2, .int .i64 a3, .int .i64 a4, .int .u64 a5, .int .i64 a6, .int .i64 a7, .int .i64 a8, .int .u64 a9, .slice A k c], .int .i64 0]) ∧ Kd.C k48 w' A k l ∧ k ≤ c ∧ Below w.heap.size w w'
theorem decode_r (a0 a1 a2 a3 a4 a5 a6 a7 a8 a9 : Int) (l : List S48) (hrt : rightB a0 a1 a2 a3 a4 a5 a6 a7 a8 a9 l = true) (h5 : 0 ≤ a5 ∧ a5 < 18446744073709551616) (h9 : 0 ≤ a9 ∧ a9 < 18446744073709551616)
    (a : Option Addr) (cap len : Nat) (w : World) (bs : List Nat) (hbs : encI a0 a1 a2 a3 a4 a5 a6 a7 a8 a9 l = bs) (k : Nat) (hk : l.length = k) (hl : Bytes w a len bs) (hc : len ≤ cap) :
    Calls Try.prog 15 #[.slice a len cap] w (DecYes a0 a1 a2 a3 a4 a5 a6 a7 a8 a9 l k w) := by
  subst hbs
  refine (decode_enc a0 a1 a2 a3 a4 a5 a6 a7 a8 a9 l hrt h5 h9 a cap len w hl hc).mono ?_
  rintro e w' ⟨v, h1, h2, h3⟩
  obtain ⟨A, c, rfl, hle, hC⟩ := Kd.R_reads h2
  rw [hk] at h1 hle hC
  exact ⟨A, c, h1, hC, hle, h3⟩
theorem ex_right : rightB 6 1 5 0 0 0 0 0 0 0 [] = true := by decide +kernel
set_option maxRecDepth 100000 in
set_option maxHeartbeats 4000000 in
theorem anchor_c (w : World) : Calls Try.prog 10 #[] w fun e w' => e = .returned (.bool true) ∧ Below w.heap.size w w' := by
  have y0 : (encI 6 1 5 0 0 0 0 0 0 0 []).getD 0 0 = 71 := by unfold encI; rw [enc_eq]; rfl
  have y3 : (encI 6 1 5 0 0 0 0 0 0 0 []).getD 3 0 = 6 := by unfold encI; rw [enc_eq]; rfl
  have y11 : (encI 6 1 5 0 0 0 0 0 0 0 []).getD 11 0 = 1 := by unfold encI; rw [enc_eq]; rfl
  have y19 : (encI 6 1 5 0 0 0 0 0 0 0 []).getD 19 0 = 5 := by unfold encI; rw [enc_eq]; rfl
  obtain ⟨bs, hbs⟩ : ∃ bs, encI 6 1 5 0 0 0 0 0 0 0 [] = bs := ⟨_, rfl⟩
  have ENC := Aside0.mk (fun W => encode_r 6 1 5 0 0 0 0 0 0 0 none 0 [] W (Kd.C_nil _ _) (Nat.le_refl _) (by decide) (by decide) ex_right bs hbs 79 rfl)
  have DEC := Aside0.mk (fun W a cap len => decode_r 6 1 5 0 0 0 0 0 0 0 [] ex_right (by decide) (by decide) a cap len W bs hbs 0 rfl)
  rw [hbs] at y0 y3 y11 y19
  have Y0 := Aside0.mk y0; have Y3 := Aside0.mk y3; have Y11 := Aside0.mk y11; have Y19 := Aside0.mk y19
  clear y0 y3 y11 y19 hbs
  go_enter Try.func10, Try.ntmps10
  go_wp2_with (first
    | (go_at_call 12; go_loud (refine (ENC.out _).mono ?_; rintro e w1 ⟨g, c, rfl, ho, hby, hcl, hge, hb⟩; have HBY := Aside0.mk hby; have HB1 := Aside0.mk hb; clear ho hby hb))
    | (go_at_call 15; go_loud (refine (DEC.out _ _ _ _ HBY.out hcl).mono ?_; rintro e w2 ⟨A, c2, rfl, hC, hcl2, hb⟩; have HBY2 := Aside0.mk (HBY.out.below hb); have HB2 := Aside0.mk (HB1.out.trans (hb.mono HB1.out.size)); clear hC hb; obtain ⟨_, ha, k0⟩ := HBY2.out.at (i := 0) (by decide); cases ha; obtain ⟨_, ha, k3⟩ := HBY2.out.at (i := 3) (by decide); cases ha; obtain ⟨_, ha, k11⟩ := HBY2.out.at (i := 11) (by decide); cases ha; obtain ⟨_, ha, k19⟩ := HBY2.out.at (i := 19) (by decide); cases ha; rw [Y0.out, add_zero_at] at k0; rw [Y3.out, add_zero_at] at k3; rw [Y11.out, add_zero_at] at k11; rw [Y19.out, add_zero_at] at k19; have gl := World.block_lt_of_cell? w2 _ k0; dsimp only at gl)))
  go_ret
  exact ⟨by simp, HB2.out.alloc HB2.out.size _⟩
end Go.Proofs.Ytldiipomcenbkaa.Qw
