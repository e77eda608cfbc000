/- wire.Decode, by hand. -/
import Derived.Test.YtldiipomcenbkaaHandY
import Derived.BigRegion
import Derived.Deep.RegionLaw
namespace Go.Proofs.Ytldiipomcenbkaa.Qw
open Go.RowKit Go.Proofs.YtldiipomcenbkaaW.PrintWords Go.Proofs.YtldiipomcenbkaaW.PrintLast Go.Proofs.YtldiipomcenbkaaW.PrintMore
open HandS (Bytes byte_at add_block)
set_option linter.unusedVariables false
set_option linter.unusedSimpArgs false
attribute [local go_sem ↓] Go.wp_at_zero Go.wp_at_succ
/-- A whole number of eight bytes. -/
def i64 (n : Nat) : Int := IntKind.i64.wrap (n : Int)
/-- The entry in place i. -/
def entAt (l : List Nat) (i : Nat) : S48 := ⟨i64 (num8 (l.drop (77 + 9 * i))), (l.getD (85 + 9 * i) 0 : Nat)⟩
def secOf (l : List Nat) : List S48 := (List.range (l.getD 76 0)).map (entAt l)
def fld (l : List Nat) (i : Nat) : Nat := num8 (l.drop (4 + 8 * i))
def zeroP : Value := .agg #[.int .i64 0, .int .i64 0, .int .i64 0, .int .i64 0, .int .i64 0, .int .u64 0, .int .i64 0, .int .i64 0, .int .i64 0, .int .u64 0, .slice none 0 0]
def rightD (l : List Nat) : Bool := rightB (l.getD 3 0 : Nat) (i64 (fld l 0)) (i64 (fld l 1)) (i64 (fld l 2)) (i64 (fld l 3)) (fld l 4 : Nat) (i64 (fld l 5)) (i64 (fld l 6)) (i64 (fld l 7)) (fld l 8 : Nat) (secOf l)
set_option maxRecDepth 100000 in
set_option maxHeartbeats 8000000 in
theorem decode_err (a : Option Addr) (cap len : Nat) (l : List Nat) (w : World) (hl : Bytes w a len l) (hc : len ≤ cap) (F : Nat) (hF : frameN l = F) (h0 : F ≠ 0) :
    Calls Try.prog 15 #[.slice a len cap] w fun e w' => e = .returned (.tuple #[zeroP, .int .i64 F]) ∧ Below w.heap.size w w' := by
  have HL := Aside0.mk hl
  have HF := Aside0.mk hF
  have h0i : ((F : Int) != 0) = true := bne_iff_ne.mpr (by omega)
  clear hl hF h0
  go_enter Try.func15, Try.ntmps15
  go_wp2_with (go_at_call 30; go_loud (refine (framed_c a cap len l _ (HL.out.below (Below.alloc (Below.refl _ _) (Nat.le_refl _) _)) hc).mono ?_; rintro e w1 ⟨rfl, hb⟩; rw [HF.out]; have HG := Aside0.mk (blk_below (blk_new w _) hb); have HB1 := Aside0.mk (below_step (below_alloc (Below.refl _ _) _) hb); clear hb; obtain ⟨f0, f1, f2, f3, f4, f5, f6, f7, f8, f9, f10⟩ := cells11 HG.out; have gl := World.block_lt_of_cell? w1 _ f1; dsimp only at gl; have fz : ∀ i, w1.frozen? ⟨w.heap.size, i, none⟩ = false := fun i => blk_frozen HG.out i))
  refine bodyPost_ret (v := .tuple #[zeroP, .int .i64 F]) (by unfold zeroP; simp [results, Try.results15, go_sem, f0, f1, f2, f3, f4, f5, f6, f7, f8, f9, f10]) rfl ⟨rfl, ?_⟩
  repeat (with_reducible first | exact HB1.out | (refine below_set ?_ (Nat.le_refl _)))
theorem frame_ok {l : List Nat} (h : frameN l = 0) : l.length = 79 + 9 * l.getD 76 0 ∧ l.getD 76 0 ≤ 3 ∧ 1 ≤ l.getD 3 0 ∧ l.getD 3 0 ≤ 7 ∧ l.getD 0 0 = 71 ∧ l.getD 1 0 = 86 ∧ l.getD 2 0 = 1 ∧
    HandC.crc 0 (l.take (l.length - 2)) = l.getD (l.length - 2) 0 * 256 + l.getD (l.length - 1) 0 := by
  unfold frameN at h
  split at h
  · omega
  split at h
  · omega
  rename_i h1
  split at h
  · omega
  rename_i h2
  split at h
  · omega
  split at h
  · omega
  split at h
  · omega
  split at h
  · omega
  split at h
  · omega
  rename_i h8
  simp only [Bool.or_eq_true, bne_iff_ne, decide_eq_true_eq, not_or, ne_eq, Decidable.not_not] at h1 h2 h8
  exact ⟨by omega, by omega, by omega, by omega, h1.1, h1.2, h2.1.1, h8⟩
/-- Block g holds the numbers that were read so far. -/
structure Na (wb wr : World) (g : Nat) (l : List Nat) (j : Nat) : Prop where
  cells : ∀ i, i < 9 → wr.cell? ⟨g, i, none⟩ = some (.int .u64 ((if i < j then fld l i else 0 : Nat) : Int))
  free : ∀ i, wr.frozen? ⟨g, i, none⟩ = false
  ge : wb.heap.size ≤ g
  bel : Below wb.heap.size wb wr
theorem Na.set {wb wr : World} {g : Nat} {l : List Nat} {j : Nat} (h : Na wb wr g l j) (hj : j < 9) : Na wb (wr.setCell ⟨g, j, none⟩ (.int .u64 (fld l j : Nat))) g l (j + 1) := by
  have hc : ∀ i, j ≠ i → (wr.setCell ⟨g, j, none⟩ (.int .u64 (fld l j : Nat))).cell? ⟨g, i, none⟩ = wr.cell? ⟨g, i, none⟩ := fun i hi => World.cell?_setCell_other _ _ _ _ (HandS.other hi)
  refine ⟨fun i hi => ?_, fun i => by rw [World.frozen?_setCell]; exact h.free i, h.ge, h.bel.setCell h.ge _⟩
  by_cases e : i = j
  · subst e
    rw [World.cell?_setCell_same _ _ _ (h.cells i hj), if_pos (Nat.lt_succ_self i)]
  · rw [hc i (fun e2 => e e2.symm), h.cells i hi]
    by_cases hk : i < j
    · rw [if_pos hk, if_pos (by omega)]
    · rw [if_neg hk, if_neg (by omega)]
theorem na_new (w : World) (l : List Nat) : Na w (w.alloc (.cells #[.int .u64 0, .int .u64 0, .int .u64 0, .int .u64 0, .int .u64 0, .int .u64 0, .int .u64 0, .int .u64 0, .int .u64 0] 50)) w.heap.size l 0 := by
  refine ⟨fun i hi => ?_, fun i => blk_frozen (blk_new w _) i, Nat.le_refl _, below_alloc (Below.refl _ _) _⟩
  rw [if_neg (by omega), blk_cell (blk_new w _) i]
  match i, hi with
  | 0, _ => rfl
  | 1, _ => rfl
  | 2, _ => rfl
  | 3, _ => rfl
  | 4, _ => rfl
  | 5, _ => rfl
  | 6, _ => rfl
  | 7, _ => rfl
  | 8, _ => rfl
theorem cut_at (ad : Addr) (len cap k : Nat) (w : World) (h1 : k < len) (h2 : len ≤ cap) (kk : Int) (hk : kk = (k : Nat)) : (Instr.slice 32 (.slice (some ad) len cap) (some (.int .i64 kk)) none none).run Try.prog w = .ok (.slice (some (ad.add k)) (len - k) (cap - k)) w := by
  rw [hk, cut2 (some ad) len cap k w (by omega) h2, if_neg (by omega)]
  rfl
theorem info48 : (Try.prog.info? 48).map (fun i => (i.zero, i.size, i.bytes)) = some (some (.agg #[.int .i64 0, .int .i64 0]), 2, 16) := by kernel_rfl
section
variable {ops : Array Oper} {o : Oper} {a : Act} {Q : Exit → Act → World → Prop} {K : Act → World → Prop} {E : Prop} {w1 W : World}
theorem append_ent {k : Nat} {cs : List Value} {x y : Int} (hgd : o.guard = none) (s z : Operand) (ho : o.op = .call { callee := .builtin .append, args := #[s, z], argTypes := #[24, 24] })
    (gP : Nat) (v : Value) (hs : a.eval s = v) (hO : W.ownsRow (gP + 1) 48 2 v k cs) (hB : Below w1.heap.size w1 W) (q : Nat) (hx : a.eval z = .slice (some ⟨q, 0, none⟩) 1 1) (hq : W.heap[q]? = some (.cells #[.int .i64 x, .int .i64 y] 48 (0, 0)))
    (hge : w1.heap.size ≤ gP) (hgl : gP < W.heap.size) (hk : k ≤ 300) (h : ∀ g cap w', w'.ownsRow (gP + 1) 48 2 (.slice (some ⟨g, 0, none⟩) (k + 1) cap) (k + 1) (cs ++ [.int .i64 x, .int .i64 y]) → Below w1.heap.size w1 w' → w'.heap[gP]? = W.heap[gP]? → K (a.put o.dst (.slice (some ⟨g, 0, none⟩) (k + 1) cap)) w') :
    if Region.wanted o (yielded ops a.tmps) = true then Oper.wp Try.prog o a W K Q else E := by
  obtain ⟨i0, hi, hzz⟩ := Option.map_eq_some_iff.1 info48
  simp only [Prod.mk.injEq] at hzz
  obtain ⟨hz0, hz1, hz2⟩ := hzz
  refine step_append_lies W hgd s z 24 ho (gP + 1) 48 i0 _ 2 16 Try.underlying24 hi hz0 hz1 hz2 rfl (by decide) v k cs hs hO ⟨q, 0, none⟩ 1 1 [.int .i64 x, .int .i64 y] hx rfl (World.news_of_block hq) (fun u hu => ?_) (by decide) (by unfold maxLen; omega) (by omega) (by omega) _ rfl ?_
  · simp only [List.mem_cons, List.not_mem_nil, or_false] at hu
    rcases hu with rfl | rfl <;> rfl
  · intro g cap w' hown' hgrow hat hlt
    exact h g cap w' hown' (hB.grown hgrow hB.size (fun j hj => by have := own_base hO j hj; omega)) (hgrow.block gP hgl (fun e => by have := own_base hO gP e.symm; omega))
end
def entCells (l : List Nat) (k : Nat) : List Value := ((List.range k).map (entAt l)).flatMap fun x => [.int .i64 x.f0, .int .i64 x.f1]
theorem entCells_succ (l : List Nat) (k : Nat) (x y : Int) (h : entAt l k = ⟨x, y⟩) : entCells l (k + 1) = entCells l k ++ [.int .i64 x, .int .i64 y] := by
  unfold entCells
  rw [List.range_succ, List.map_append, List.flatMap_append, List.map_singleton, h]
  rfl
/-- Block g holds the packet so far; of its entries k are there. -/
def PsRel (w1 : World) (g : Nat) (P : Array Value) (l : List Nat) (m : Nat) (i : Value) (wr : World) : Prop :=
  ∃ (k : Nat) (v : Value), k ≤ m ∧ i = .int .i64 k ∧ wr.heap[g]? = some (.cells (P.push v) 26 (0, 0)) ∧ wr.ownsRow (g + 1) 48 2 v k (entCells l k) ∧ Below w1.heap.size w1 wr
theorem ents_reps (w : World) (b : Nat) (ok : Nat → Prop) (xs : List S48) : Reps (k48.M w b ok) 2 xs (xs.flatMap fun x => [.int .i64 x.f0, .int .i64 x.f1]) := by
  induction xs with
  | nil => exact Reps.none _ _
  | cons x xs ih => exact Reps.c2 (k48_mkM w b ok x) ih
theorem ents_R {w : World} {g k : Nat} {v : Value} {l : List Nat} (h : w.ownsRow (g + 1) 48 2 v k (entCells l k)) (hk : l.getD 76 0 = k) : Kd.R k48 48 w (g + 1) (fun _ => True) v (secOf l) := by
  have hl : (secOf l).length = k := by unfold secOf; rw [List.length_map, List.length_range, hk]
  have he : entCells l k = (secOf l).flatMap fun x => [.int .i64 x.f0, .int .i64 x.f1] := by unfold entCells secOf; rw [hk]
  rw [he, ← hl] at h
  exact ⟨fun _ _ => trivial, _, h, ents_reps w (g + 1) _ (secOf l)⟩
/-- What Decode answers of bytes whose frame is right. -/
def DecPost (r : Bool) (l : List Nat) (w : World) (e : Ending) (w' : World) : Prop :=
  match r with
  | true => ∃ v, e = .returned (.tuple #[.agg #[.int .i64 (l.getD 3 0 : Nat), .int .i64 (i64 (fld l 0)), .int .i64 (i64 (fld l 1)), .int .i64 (i64 (fld l 2)), .int .i64 (i64 (fld l 3)), .int .u64 (fld l 4 : Nat), .int .i64 (i64 (fld l 5)), .int .i64 (i64 (fld l 6)), .int .i64 (i64 (fld l 7)), .int .u64 (fld l 8 : Nat), v], .int .i64 0]) ∧ Kd.R k48 48 w' w.heap.size (fun _ => True) v (secOf l) ∧ Below w.heap.size w w'
  | false => e = .returned (.tuple #[zeroP, .int .i64 10]) ∧ Below w.heap.size w w'
set_option maxRecDepth 100000 in
set_option maxHeartbeats 8000000 in
theorem decode_ok (a : Option Addr) (cap len : Nat) (l : List Nat) (w : World) (hl : Bytes w a len l) (hc : len ≤ cap) (hF : frameN l = 0) (r : Bool) (hrt : rightD l = r) :
    Calls Try.prog 15 #[.slice a len cap] w (DecPost r l w) := by
  have HRT := Aside0.mk hrt
  clear hrt
  obtain ⟨h1, h2, h3, h4, -, -, -, -⟩ := frame_ok hF
  have hll := hl.1
  have hmax := hl.2.1
  obtain ⟨m, hm⟩ : ∃ m, l.getD 76 0 = m := ⟨_, rfl⟩
  rw [hm] at h1 h2
  have hle : len = 79 + 9 * m := by omega
  have HL := Aside0.mk hl
  have HF := Aside0.mk hF
  obtain ⟨ad, rfl, k3⟩ := hl.at (i := 3) (by omega)
  obtain ⟨_, ha, k76⟩ := hl.at (i := 76) (by omega); cases ha
  rw [show ad.add 3 = ⟨ad.block, ad.off + 3, none⟩ from rfl] at k3
  rw [show ad.add 76 = ⟨ad.block, ad.off + 76, none⟩ from rfl] at k76
  obtain ⟨x3, e3⟩ : ∃ x, l.getD 3 0 = x := ⟨_, rfl⟩
  rw [e3] at k3 h3 h4
  rw [hm] at k76
  have HM := Aside0.mk hm
  have E3 := Aside0.mk e3
  have HLE := Aside0.mk hle
  have hlen79 : 79 ≤ len := by omega
  have K3 := Aside0.mk k3
  have K76 := Aside0.mk k76
  clear hl hF hm e3 hle h1 hll k3 k76
  go_enter Try.func15, Try.ntmps15
  go_wp2_with (go_at_call 30; go_loud (refine (framed_c (some ad) cap len l _ (HL.out.below (Below.alloc (Below.refl _ _) (Nat.le_refl _) _)) hc).mono ?_; rintro e w1 ⟨rfl, hb⟩; rw [HF.out, show ((0 : Nat) : Int) = 0 from rfl]; have HG := Aside0.mk (blk_below (blk_new w _) hb); have HB1 := Aside0.mk (below_step (below_alloc (Below.refl _ _) _) hb); clear hb))
  go_loopw [16] (fun i wr => ∃ j : Nat, j ≤ 9 ∧ i = .int .i64 j ∧ Na w1 wr w1.heap.size l j) (fun i _ => 9 - (intOf i).toNat)
  case atStart => exact ⟨0, by omega, rfl, na_new w1 l⟩
  case round =>
    obtain ⟨j, hj, rfl, hN⟩ := hrel
    have HN := Aside0.mk hN
    clear hN
    by_cases hlt : j < 9
    · have hlt2 : (j : Int) < 9 := by omega
      have hcut := fun W => cut_at ad len cap (4 + 8 * j) W (by omega) hc (4 + 8 * (j : Int)) (by omega)
      have HD := Aside0.mk (Bytes_drop (HL.out.below (HB1.out.trans (HN.out.bel.mono HB1.out.size))) (n := 4 + 8 * j) (by omega))
      have h1 := HN.out.cells j hlt
      rw [if_neg (Nat.lt_irrefl j)] at h1
      have f1 := HN.out.free j
      have HN2 := Aside0.mk (HN.out.set hlt)
      have HFD := Aside0.mk (show num8 (l.drop (4 + 8 * j)) = fld l j from rfl)
      obtain ⟨n, hn⟩ : ∃ n, fld l j = n := ⟨_, rfl⟩
      rw [hn] at HN2 HFD
      clear hn
      go_wp2_with (go_at_call 31; go_loud (refine (get_c _ _ _ (l.drop (4 + 8 * j)) _ HD.out (by omega) (by omega)).mono ?_; rintro e w2 ⟨rfl, rfl⟩; rw [HFD.out]))
      exact ⟨⟨j + 1, by omega, by go_num, HN2.out⟩, by simp [intOf]; omega⟩
    · obtain rfl : j = 9 := by omega
      go_upto_region 10 with fail
      obtain ⟨g5, hg5⟩ : ∃ g5, w1.heap.size = g5 := ⟨_, rfl⟩
      rw [hg5] at HN ⊢
      have c0 := HN.out.cells 0 (by decide)
      rw [if_pos (by decide)] at c0
      obtain ⟨m0, hm0⟩ : ∃ n, fld l 0 = n := ⟨_, rfl⟩
      rw [hm0] at c0
      have HM0 := Aside0.mk hm0
      clear hm0
      have c1 := HN.out.cells 1 (by decide)
      rw [if_pos (by decide)] at c1
      obtain ⟨m1, hm1⟩ : ∃ n, fld l 1 = n := ⟨_, rfl⟩
      rw [hm1] at c1
      have HM1 := Aside0.mk hm1
      clear hm1
      have c2 := HN.out.cells 2 (by decide)
      rw [if_pos (by decide)] at c2
      obtain ⟨m2, hm2⟩ : ∃ n, fld l 2 = n := ⟨_, rfl⟩
      rw [hm2] at c2
      have HM2 := Aside0.mk hm2
      clear hm2
      have c3 := HN.out.cells 3 (by decide)
      rw [if_pos (by decide)] at c3
      obtain ⟨m3, hm3⟩ : ∃ n, fld l 3 = n := ⟨_, rfl⟩
      rw [hm3] at c3
      have HM3 := Aside0.mk hm3
      clear hm3
      have c4 := HN.out.cells 4 (by decide)
      rw [if_pos (by decide)] at c4
      obtain ⟨m4, hm4⟩ : ∃ n, fld l 4 = n := ⟨_, rfl⟩
      rw [hm4] at c4
      have HM4 := Aside0.mk hm4
      clear hm4
      have c5 := HN.out.cells 5 (by decide)
      rw [if_pos (by decide)] at c5
      obtain ⟨m5, hm5⟩ : ∃ n, fld l 5 = n := ⟨_, rfl⟩
      rw [hm5] at c5
      have HM5 := Aside0.mk hm5
      clear hm5
      have c6 := HN.out.cells 6 (by decide)
      rw [if_pos (by decide)] at c6
      obtain ⟨m6, hm6⟩ : ∃ n, fld l 6 = n := ⟨_, rfl⟩
      rw [hm6] at c6
      have HM6 := Aside0.mk hm6
      clear hm6
      have c7 := HN.out.cells 7 (by decide)
      rw [if_pos (by decide)] at c7
      obtain ⟨m7, hm7⟩ : ∃ n, fld l 7 = n := ⟨_, rfl⟩
      rw [hm7] at c7
      have HM7 := Aside0.mk hm7
      clear hm7
      have c8 := HN.out.cells 8 (by decide)
      rw [if_pos (by decide)] at c8
      obtain ⟨m8, hm8⟩ : ∃ n, fld l 8 = n := ⟨_, rfl⟩
      rw [hm8] at c8
      have HM8 := Aside0.mk hm8
      clear hm8
      obtain ⟨v0, hw0⟩ : ∃ v, IntKind.i64.wrap (m0 : Int) = v := ⟨_, rfl⟩
      have HV0 := Aside0.mk hw0
      obtain ⟨v1, hw1⟩ : ∃ v, IntKind.i64.wrap (m1 : Int) = v := ⟨_, rfl⟩
      have HV1 := Aside0.mk hw1
      obtain ⟨v2, hw2⟩ : ∃ v, IntKind.i64.wrap (m2 : Int) = v := ⟨_, rfl⟩
      have HV2 := Aside0.mk hw2
      obtain ⟨v3, hw3⟩ : ∃ v, IntKind.i64.wrap (m3 : Int) = v := ⟨_, rfl⟩
      have HV3 := Aside0.mk hw3
      obtain ⟨v5, hw5⟩ : ∃ v, IntKind.i64.wrap (m5 : Int) = v := ⟨_, rfl⟩
      have HV5 := Aside0.mk hw5
      obtain ⟨v6, hw6⟩ : ∃ v, IntKind.i64.wrap (m6 : Int) = v := ⟨_, rfl⟩
      have HV6 := Aside0.mk hw6
      obtain ⟨v7, hw7⟩ : ∃ v, IntKind.i64.wrap (m7 : Int) = v := ⟨_, rfl⟩
      have HV7 := Aside0.mk hw7
      have hw9 : IntKind.i64.wrap (x3 : Int) = x3 := by rw [HandC.wrap_i64]; omega
      have hbw := HB1.out.trans (HN.out.bel.mono HB1.out.size)
      have k3 := (hbw.cell (World.block_lt_of_cell? w _ K3.out)).trans K3.out
      have HBW := Aside0.mk hbw
      have l4 : (3 : Int) < len := by omega
      have gl5 := World.block_lt_of_cell? wr _ c0
      have gl3 := World.block_lt_of_cell? wr _ k3
      dsimp only at gl5 gl3
      clear hbw hg5
      go_region_held3 (fun w' => w'.cell? ⟨ad.block, ad.off + 3, none⟩ = some (.int .u8 x3) ∧ w'.cell? ⟨g5, 0, none⟩ = some (.int .u64 m0) ∧ w'.cell? ⟨g5, 1, none⟩ = some (.int .u64 m1) ∧ w'.cell? ⟨g5, 2, none⟩ = some (.int .u64 m2) ∧ w'.cell? ⟨g5, 3, none⟩ = some (.int .u64 m3) ∧ w'.cell? ⟨g5, 4, none⟩ = some (.int .u64 m4) ∧ w'.cell? ⟨g5, 5, none⟩ = some (.int .u64 m5) ∧ w'.cell? ⟨g5, 6, none⟩ = some (.int .u64 m6) ∧ w'.cell? ⟨g5, 7, none⟩ = some (.int .u64 m7) ∧ w'.cell? ⟨g5, 8, none⟩ = some (.int .u64 m8)) (go_keep) (fail)
      clear hw0 hw1 hw2 hw3 hw5 hw6 hw7 hw9
      have k76 := (HBW.out.cell (World.block_lt_of_cell? w _ K76.out)).trans K76.out
      clear c0 c1 c2 c3 c4 c5 c6 c7 c8 k3
      go_wp2
      obtain ⟨gP, hgP⟩ : ∃ gP, wr.heap.size = gP := ⟨_, rfl⟩
      obtain ⟨we, hwe⟩ : ∃ we, we = (wr.alloc (.cells #[.int .i64 x3, .int .i64 v0, .int .i64 v1, .int .i64 v2, .int .i64 v3, .int .u64 m4, .int .i64 v5, .int .i64 v6, .int .i64 v7, .int .u64 m8, .slice none 0 0] 26)).drew := ⟨_, rfl⟩
      have HP := Aside0.mk (show we.heap[gP]? = some (.cells #[.int .i64 x3, .int .i64 v0, .int .i64 v1, .int .i64 v2, .int .i64 v3, .int .u64 m4, .int .i64 v5, .int .i64 v6, .int .i64 v7, .int .u64 m8, .slice none 0 0] 26 (0, 0)) by rw [hwe, ← hgP]; exact blk_drew (blk_new wr _))
      have HBE := Aside0.mk (show Below w1.heap.size w1 we by rw [hwe]; exact below_drew (HN.out.bel.alloc HN.out.bel.size _))
      have HGP := Aside0.mk (show w1.heap.size ≤ gP from hgP ▸ HN.out.bel.size)
      rw [← hwe, hgP]
      clear hwe hgP HN k76 gl5 gl3
      go_loopw [62] (fun i wr => PsRel w1 gP #[.int .i64 x3, .int .i64 v0, .int .i64 v1, .int .i64 v2, .int .i64 v3, .int .u64 m4, .int .i64 v5, .int .i64 v6, .int .i64 v7, .int .u64 m8] l m i wr) (fun i _ => m - (intOf i).toNat)
      case atStart => exact ⟨0, _, Nat.zero_le _, rfl, HP.out, World.ownsRow_nil _ _ _ _, HBE.out⟩
      case round =>
        clear HP HBE
        obtain ⟨k, v, hk, rfl, hP, hO, hB⟩ := hrel
        have HP := Aside0.mk hP
        have HO := Aside0.mk hO
        have HB := Aside0.mk hB
        clear hP hO hB
        by_cases hlt : k < m
        · have hlt2 : (k : Int) < m := by omega
          obtain ⟨p, hp⟩ : ∃ p, ad.off + (77 + 9 * k) = p := ⟨_, rfl⟩
          have hadd : ad.add (77 + 9 * k) = ⟨ad.block, p, none⟩ := by rw [← hp]; unfold Addr.add; rw [if_neg (by omega)]
          have hcut := fun W => cut_at ad len cap (77 + 9 * k) W (by have := HLE.out; omega) hc (77 + 9 * (k : Int)) (by omega)
          have HBW2 := Aside0.mk (HB1.out.trans (HB.out.mono HB1.out.size))
          have hd := Bytes_drop (HL.out.below HBW2.out) (n := 77 + 9 * k) (by have := HLE.out; omega)
          have h85 := (Bytes.at (HL.out.below HBW2.out) (i := 85 + 9 * k) (by have := HLE.out; omega))
          obtain ⟨_, ha, hy⟩ := h85
          cases ha
          rw [show ad.add (85 + 9 * k) = ⟨ad.block, p + 8, none⟩ by rw [← hp]; unfold Addr.add; rw [if_neg (by omega)]; congr 1; omega] at hy
          have hd2 : Bytes wr (some ⟨ad.block, p, none⟩) (len - (77 + 9 * k)) (l.drop (77 + 9 * k)) := by rw [← hadd]; exact hd
          simp only [hadd] at hcut
          have HD := Aside0.mk hd2
          have zy := byte_at HL.out.2.2.1 (85 + 9 * k)
          obtain ⟨y, ey⟩ : ∃ y, l.getD (85 + 9 * k) 0 = y := ⟨_, rfl⟩
          obtain ⟨n, en⟩ : ∃ n, num8 (l.drop (77 + 9 * k)) = n := ⟨_, rfl⟩
          obtain ⟨x, ex⟩ : ∃ x, IntKind.i64.wrap (n : Int) = x := ⟨_, rfl⟩
          have hent : entAt l k = ⟨x, (y : Nat)⟩ := by unfold entAt i64; rw [en, ey, ex]
          rw [ey] at hy zy
          have EN := Aside0.mk en
          have HENT := Aside0.mk hent
          obtain ⟨L, hL⟩ : ∃ L, len - (77 + 9 * k) = L := ⟨_, rfl⟩
          obtain ⟨C, hC⟩ : ∃ C, cap - (77 + 9 * k) = C := ⟨_, rfl⟩
          have hL8 : 11 ≤ L := by have := HLE.out; omega
          have hL9 : (8 : Int) < L := by omega
          have hLC : L ≤ C := by omega
          rw [hL] at HD
          simp only [hL, hC] at hcut
          have f10 := blk_cell HP.out 10
          have f10' : wr.cell? ⟨gP, 10, none⟩ = some v := f10.trans rfl
          have fz := blk_frozen HP.out 10
          clear ey en hent hp hadd hd hd2 hL hC f10
          go_upto_region 15 with fail
          have hwn : IntKind.i64.wrap (y : Int) = y := by rw [HandC.wrap_i64]; omega
          have lad := World.block_lt_of_cell? wr _ hy
          have lgp := World.block_lt_of_cell? wr _ f10'
          dsimp only at lad lgp
          have HNX := Aside0.mk (fun (W : World) (h : W.heap = wr.heap) => (own_move (w1 := W) HO.out (fun k _ => by rw [h])))
          go_region_law (first
            | (refine goes_ Try.func31 (by kernel_rfl) rfl #[.slice (some ⟨ad.block, p, none⟩) L C] (by rfl) rfl rfl (by first | rfl | (go_simp; done) | (simp; done)) ?_; (refine (get_c _ _ _ (l.drop (77 + 9 * k)) _ (by first | exact HD.out | exact HD.out.below (below_drew (Below.refl _ _))) (by omega) hLC).mono ?_; rintro e w2 ⟨rfl, rfl⟩; rw [EN.out]; refine ⟨_, rfl, ?_⟩))
            | (refine append_ent (w1 := w1) (by rfl) _ _ (by rfl) gP v (by rfl) (by have := HO.out.alloc (.cells #[.int .i64 x, .int .i64 (y : Int)] 48); exact this) (below_drew (HB.out.alloc HB.out.size _)) wr.heap.size (by rfl) (blk_drew (blk_new wr _)) HGP.out (by simp; omega) (by omega) ?_; intro g3 c3 w3 ho hb hq; have hq2 := hq.trans (blk_drew (blk_alloc HP.out _)); have q10 : w3.cell? ⟨gP, 10, none⟩ = some v := (blk_cell hq2 10).trans rfl; have qz := blk_frozen hq2 10; have HO3 := Aside0.mk ho; have HB3 := Aside0.mk hb; have HQ3 := Aside0.mk hq2; clear ho hb hq hq2))
          all_goals (clear hwn; go_wp2)
          all_goals
            have hent := entCells_succ l k x y HENT.out
            refine ⟨⟨k + 1, _, by omega, by go_num, blk_set HQ3.out 10 _, ?_, below_set HB3.out HGP.out⟩, by simp [intOf]; omega⟩
            rw [hent]
            exact own_move HO3.out (fun j hj => Below.heap_setCell _ _ _ _ (show j ≠ gP from fun e => by have := own_base HO3.out j hj; omega))
        · have hkm : k = m := by omega
          subst hkm
          have hR := ents_R HO.out HM.out
          obtain ⟨A, c, rfl, hAc, hC⟩ := Kd.R_reads hR
          have hrt := HRT.out
          unfold rightD at hrt
          rw [E3.out, HM0.out, HM1.out, HM2.out, HM3.out, HM4.out, HM5.out, HM6.out, HM7.out, HM8.out] at hrt
          unfold i64 at hrt
          rw [HV0.out, HV1.out, HV2.out, HV3.out, HV5.out, HV6.out, HV7.out] at hrt
          have RC := Aside0.mk (right_c x3 v0 v1 v2 v3 m4 v5 v6 v7 m8 A c (secOf l) wr hC hAc r hrt)
          have HRR := Aside0.mk hR
          obtain ⟨f0, f1, f2, f3, f4, f5, f6, f7, f8, f9, f10⟩ := cells11 HP.out
          have HG2 := Aside0.mk (blk_below HG.out HB.out)
          clear hR hC hAc hrt hlt hk
          cases r with
          | true =>
            go_wp2_with (go_at_call 13; go_loud (refine RC.out.mono ?_; rintro e w2 ⟨rfl, hb⟩; have HG3 := Aside0.mk (blk_below HG2.out hb); have HP3 := Aside0.mk (blk_below HP.out hb); have HO3 := Aside0.mk (own_move HO.out (fun j hj => hb.block j (own_lt HO.out j hj))); have HB3 := Aside0.mk (HB.out.trans (hb.mono HB.out.size)); obtain ⟨q0, q1, q2, q3, q4, q5, q6, q7, q8, q9, q10⟩ := cells11 HP3.out; obtain ⟨z0, z1, z2, z3, z4, z5, z6, z7, z8, z9, z10⟩ := cells11 HG3.out; have fz : ∀ i, w2.frozen? ⟨w.heap.size, i, none⟩ = false := fun i => blk_frozen HG3.out i; clear hb))
            refine bodyPost_ret (v := .tuple #[.agg #[.int .i64 (x3 : Nat), .int .i64 v0, .int .i64 v1, .int .i64 v2, .int .i64 v3, .int .u64 (m4 : Nat), .int .i64 v5, .int .i64 v6, .int .i64 v7, .int .u64 (m8 : Nat), .slice A (secOf l).length c], .int .i64 0]) (by simp [results, Try.results15, go_sem, z0, z1, z2, z3, z4, z5, z6, z7, z8, z9, z10]) rfl ?_
            clear RC HRR HG2 q0 q1 q2 q3 q4 q5 q6 q7 q8 q9 q10 z0 z1 z2 z3 z4 z5 z6 z7 z8 z9 z10 fz
            refine ⟨.slice A (secOf l).length c, ?_, ?_, ?_⟩
            · rw [E3.out, HM0.out, HM1.out, HM2.out, HM3.out, HM4.out, HM5.out, HM6.out, HM7.out, HM8.out]
              unfold i64
              rw [HV0.out, HV1.out, HV2.out, HV3.out, HV5.out, HV6.out, HV7.out]
            · refine Kd.R_lower (ents_R (own_move HO3.out (fun j hj => ?_)) HM.out) (by have := HB1.out.size; have := HGP.out; omega)
              have hne : j ≠ w.heap.size := by have := own_base HO3.out j hj; have := HB1.out.size; have := HGP.out; omega
              repeat (with_reducible first | rfl | refine (Below.heap_setCell _ _ _ _ hne).trans ?_)
            · have HBF := Aside0.mk (HB1.out.trans (HB3.out.mono HB1.out.size))
              repeat (with_reducible first | exact HBF.out | (refine below_set ?_ (Nat.le_refl _)))
          | false =>
            go_wp2_with (go_at_call 13; go_loud (refine RC.out.mono ?_; rintro e w2 ⟨rfl, hb⟩; have HG3 := Aside0.mk (blk_below HG2.out hb); have HP3 := Aside0.mk (blk_below HP.out hb); have HO3 := Aside0.mk (own_move HO.out (fun j hj => hb.block j (own_lt HO.out j hj))); have HB3 := Aside0.mk (HB.out.trans (hb.mono HB.out.size)); obtain ⟨q0, q1, q2, q3, q4, q5, q6, q7, q8, q9, q10⟩ := cells11 HP3.out; obtain ⟨z0, z1, z2, z3, z4, z5, z6, z7, z8, z9, z10⟩ := cells11 HG3.out; have fz : ∀ i, w2.frozen? ⟨w.heap.size, i, none⟩ = false := fun i => blk_frozen HG3.out i; clear hb))
            refine bodyPost_ret (v := .tuple #[zeroP, .int .i64 10]) (by unfold zeroP; simp [results, Try.results15, go_sem, z0, z1, z2, z3, z4, z5, z6, z7, z8, z9, z10]) rfl ⟨rfl, ?_⟩
            have HBF := Aside0.mk (HB1.out.trans (HB3.out.mono HB1.out.size))
            repeat (with_reducible first | exact HBF.out | (refine below_set ?_ (Nat.le_refl _)))
end Go.Proofs.Ytldiipomcenbkaa.Qw
