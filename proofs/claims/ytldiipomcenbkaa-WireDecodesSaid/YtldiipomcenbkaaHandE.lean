/- wire.Encode, by hand. -/
import Derived.Test.YtldiipomcenbkaaHandX
import Derived.Deep.RegionHeld3
import Derived.Deep.DrawnRows
import Derived.Deep.Cut
import Derived.Outline
namespace Go.Proofs.Ytldiipomcenbkaa.Qw
open Go.RowKit Go.Proofs.YtldiipomcenbkaaW.PrintWords Go.Proofs.YtldiipomcenbkaaW.PrintLast Go.Proofs.YtldiipomcenbkaaW.PrintMore
set_option linter.unusedVariables false
set_option linter.unusedSimpArgs false
attribute [local go_sem ↓] Go.wp_at_zero Go.wp_at_succ
theorem ix0 (n1 n2 n3 n4 n5 n6 n7 n8 n9 : Int) (w : World) : (Instr.index 50 (.agg #[.int .u64 n1, .int .u64 n2, .int .u64 n3, .int .u64 n4, .int .u64 n5, .int .u64 n6, .int .u64 n7, .int .u64 n8, .int .u64 n9]) (.int .i64 0)).run Try.prog w = .ok (.int .u64 n1) w := by kernel_rfl
theorem ix1 (n1 n2 n3 n4 n5 n6 n7 n8 n9 : Int) (w : World) : (Instr.index 50 (.agg #[.int .u64 n1, .int .u64 n2, .int .u64 n3, .int .u64 n4, .int .u64 n5, .int .u64 n6, .int .u64 n7, .int .u64 n8, .int .u64 n9]) (.int .i64 1)).run Try.prog w = .ok (.int .u64 n2) w := by kernel_rfl
theorem ix2 (n1 n2 n3 n4 n5 n6 n7 n8 n9 : Int) (w : World) : (Instr.index 50 (.agg #[.int .u64 n1, .int .u64 n2, .int .u64 n3, .int .u64 n4, .int .u64 n5, .int .u64 n6, .int .u64 n7, .int .u64 n8, .int .u64 n9]) (.int .i64 2)).run Try.prog w = .ok (.int .u64 n3) w := by kernel_rfl
theorem ix3 (n1 n2 n3 n4 n5 n6 n7 n8 n9 : Int) (w : World) : (Instr.index 50 (.agg #[.int .u64 n1, .int .u64 n2, .int .u64 n3, .int .u64 n4, .int .u64 n5, .int .u64 n6, .int .u64 n7, .int .u64 n8, .int .u64 n9]) (.int .i64 3)).run Try.prog w = .ok (.int .u64 n4) w := by kernel_rfl
theorem ix4 (n1 n2 n3 n4 n5 n6 n7 n8 n9 : Int) (w : World) : (Instr.index 50 (.agg #[.int .u64 n1, .int .u64 n2, .int .u64 n3, .int .u64 n4, .int .u64 n5, .int .u64 n6, .int .u64 n7, .int .u64 n8, .int .u64 n9]) (.int .i64 4)).run Try.prog w = .ok (.int .u64 n5) w := by kernel_rfl
theorem ix5 (n1 n2 n3 n4 n5 n6 n7 n8 n9 : Int) (w : World) : (Instr.index 50 (.agg #[.int .u64 n1, .int .u64 n2, .int .u64 n3, .int .u64 n4, .int .u64 n5, .int .u64 n6, .int .u64 n7, .int .u64 n8, .int .u64 n9]) (.int .i64 5)).run Try.prog w = .ok (.int .u64 n6) w := by kernel_rfl
theorem ix6 (n1 n2 n3 n4 n5 n6 n7 n8 n9 : Int) (w : World) : (Instr.index 50 (.agg #[.int .u64 n1, .int .u64 n2, .int .u64 n3, .int .u64 n4, .int .u64 n5, .int .u64 n6, .int .u64 n7, .int .u64 n8, .int .u64 n9]) (.int .i64 6)).run Try.prog w = .ok (.int .u64 n7) w := by kernel_rfl
theorem ix7 (n1 n2 n3 n4 n5 n6 n7 n8 n9 : Int) (w : World) : (Instr.index 50 (.agg #[.int .u64 n1, .int .u64 n2, .int .u64 n3, .int .u64 n4, .int .u64 n5, .int .u64 n6, .int .u64 n7, .int .u64 n8, .int .u64 n9]) (.int .i64 7)).run Try.prog w = .ok (.int .u64 n8) w := by kernel_rfl
theorem ix8 (n1 n2 n3 n4 n5 n6 n7 n8 n9 : Int) (w : World) : (Instr.index 50 (.agg #[.int .u64 n1, .int .u64 n2, .int .u64 n3, .int .u64 n4, .int .u64 n5, .int .u64 n6, .int .u64 n7, .int .u64 n8, .int .u64 n9]) (.int .i64 8)).run Try.prog w = .ok (.int .u64 n9) w := by kernel_rfl
theorem index9 (n1 n2 n3 n4 n5 n6 n7 n8 n9 : Nat) (j : Nat) (hj : j < 9) (w : World) :
    (Instr.index 50 (.agg #[.int .u64 n1, .int .u64 n2, .int .u64 n3, .int .u64 n4, .int .u64 n5, .int .u64 n6, .int .u64 n7, .int .u64 n8, .int .u64 n9]) (.int .i64 j)).run Try.prog w = .ok (.int .u64 (([n1, n2, n3, n4, n5, n6, n7, n8, n9].getD j 0 : Nat) : Int)) w := by
  match j, hj with
  | 0, _ => exact ix0 _ _ _ _ _ _ _ _ _ w
  | 1, _ => exact ix1 _ _ _ _ _ _ _ _ _ w
  | 2, _ => exact ix2 _ _ _ _ _ _ _ _ _ w
  | 3, _ => exact ix3 _ _ _ _ _ _ _ _ _ w
  | 4, _ => exact ix4 _ _ _ _ _ _ _ _ _ w
  | 5, _ => exact ix5 _ _ _ _ _ _ _ _ _ w
  | 6, _ => exact ix6 _ _ _ _ _ _ _ _ _ w
  | 7, _ => exact ix7 _ _ _ _ _ _ _ _ _ w
  | 8, _ => exact ix8 _ _ _ _ _ _ _ _ _ w
theorem flat_take (ns : List Nat) (j : Nat) (hj : j < ns.length) : (ns.take (j + 1)).flatMap e8 = (ns.take j).flatMap e8 ++ e8 (ns.getD j 0) := by
  rw [List.take_succ_eq_append_getElem hj, List.flatMap_append, List.getD_eq_getElem?_getD, List.getElem?_eq_getElem hj]
  simp
theorem flat_len (ns : List Nat) : (ns.flatMap e8).length = 8 * ns.length := by
  induction ns with
  | nil => rfl
  | cons n ns ih => rw [List.flatMap_cons, List.length_append, ih, e8_length, List.length_cons]; omega
theorem ent_length (x : S48) : (ent x).length = 9 := rfl
theorem ents_len (l : List S48) : (l.flatMap ent).length = 9 * l.length := by
  induction l with
  | nil => rfl
  | cons n ns ih => rw [List.flatMap_cons, List.length_append, ih, ent_length, List.length_cons]; omega
theorem ents_take (l : List S48) (k : Nat) (hk : k < l.length) : (l.take (k + 1)).flatMap ent = (l.take k).flatMap ent ++ ent (rd_T48 l (k : Int)) := by
  rw [take_at l k hk, List.flatMap_append]
  simp
theorem cells2 {w : World} {g t : Nat} {x0 x1 : Value} (h : w.heap[g]? = some (.cells #[x0, x1] t (0, 0))) : w.cell? ⟨g, 0, none⟩ = some x0 ∧ w.cell? ⟨g, 1, none⟩ = some x1 :=
  ⟨(blk_cell h 0).trans rfl, (blk_cell h 1).trans rfl⟩
theorem wrap_u64 (n : Int) : IntKind.u64.wrap n = n % 18446744073709551616 := by simp [IntKind.wrap, IntKind.bits, IntKind.signed]
theorem nums_length (n1 n2 n3 n4 n5 n6 n7 n8 n9 : Nat) : (nums n1 n2 n3 n4 n5 n6 n7 n8 n9).length = 72 := rfl
theorem body_length (n0 n1 n2 n3 n4 n5 n6 n7 n8 n9 : Nat) (l : List S48) : (body n0 n1 n2 n3 n4 n5 n6 n7 n8 n9 l).length = 77 + 9 * l.length := by
  unfold body
  rw [List.length_append, List.length_append, List.length_append, nums_length, ents_len]
  simp
theorem nums_lt (n1 n2 n3 n4 n5 n6 n7 n8 n9 : Nat) : ∀ x ∈ nums n1 n2 n3 n4 n5 n6 n7 n8 n9, x < 256 := by
  intro x hx
  unfold nums at hx
  simp only [List.mem_append] at hx
  rcases hx with (((((((h | h) | h) | h) | h) | h) | h) | h) | h <;> exact e8_lt _ x h
theorem body_lt (n0 n1 n2 n3 n4 n5 n6 n7 n8 n9 : Nat) (l : List S48) (h0 : n0 < 256) (hl : l.length < 256) (he : ∀ x ∈ l, x.f1.toNat < 256) : ∀ x ∈ body n0 n1 n2 n3 n4 n5 n6 n7 n8 n9 l, x < 256 := by
  intro x hx
  unfold body at hx
  simp only [List.mem_append, List.mem_cons, List.not_mem_nil, or_false, List.mem_flatMap] at hx
  rcases hx with (((rfl | rfl | rfl | rfl) | h) | rfl) | ⟨y, hy, h⟩
  · decide
  · decide
  · decide
  · exact h0
  · exact nums_lt _ _ _ _ _ _ _ _ _ x h
  · exact hl
  · unfold ent at h
    simp only [List.mem_append, List.mem_cons, List.not_mem_nil, or_false] at h
    rcases h with h | rfl
    · exact e8_lt _ x h
    · exact he y hy
def NumRel (w1 : World) (hd ns : List Nat) (v i : Value) (wr : World) : Prop :=
  ∃ j : Nat, j ≤ 9 ∧ i = .int .i64 j ∧ Own w1 wr v (hd ++ (ns.take j).flatMap e8) ∧ Below w1.heap.size w1 wr
def EntRel (w1 : World) (hd : List Nat) (l : List S48) (v i : Value) (wr : World) : Prop :=
  ∃ k : Nat, k ≤ l.length ∧ i = .int .i64 k ∧ Own w1 wr v (hd ++ (l.take k).flatMap ent) ∧ Below w1.heap.size w1 wr
set_option maxRecDepth 100000 in
set_option maxHeartbeats 8000000 in
theorem encode_yes (n0 n1 n2 n3 n4 n5 n6 n7 n8 n9 : Nat) (A : Option Addr) (c : Nat) (l : List S48) (w : World) (hr : Kd.C k48 w A l.length l) (hc : l.length ≤ c)
    (hrt : rightB n0 n1 n2 n3 n4 n5 n6 n7 n8 n9 l = true) (b0 : n0 ≤ 7) (b1 : n1 ≤ 281474976710656) (b2 : n2 ≤ 281474976710656) (b3 : n3 ≤ 281474976710656) (b4 : n4 ≤ 281474976710656) (b5 : n5 < 18446744073709551616)
    (b6 : n6 ≤ 281474976710656) (b7 : n7 ≤ 281474976710656) (b8 : n8 ≤ 281474976710656) (b9 : n9 < 18446744073709551616) (bl : l.length ≤ 3) (be : ∀ x ∈ l, 0 ≤ x.f0 ∧ x.f0 ≤ 4294967296 ∧ 0 ≤ x.f1 ∧ x.f1 ≤ 2) :
    Calls Try.prog 12 #[.agg #[.int .i64 n0, .int .i64 n1, .int .i64 n2, .int .i64 n3, .int .i64 n4, .int .u64 n5, .int .i64 n6, .int .i64 n7, .int .i64 n8, .int .u64 n9, .slice A l.length c]] w fun e w' => ∃ v, e = .returned (.tuple #[v, .int .i64 0]) ∧ Own w w' v (enc n0 n1 n2 n3 n4 n5 n6 n7 n8 n9 l) ∧ Below w.heap.size w w' := by
  obtain ⟨n, hn⟩ : ∃ n, l.length = n := ⟨_, rfl⟩
  have RC := Aside0.mk (fun W (h : Kd.C k48 W A l.length l) => right_c n0 n1 n2 n3 n4 n5 n6 n7 n8 n9 A c l W h hc true hrt)
  rw [hn] at RC bl hc hr ⊢
  have HN := Aside0.mk hn
  have HR := Aside0.mk hr
  have HE := Aside0.mk be
  clear hr hrt hn be
  have hix := index9 n1 n2 n3 n4 n5 n6 n7 n8 n9
  have HIX := Aside0.mk hix
  clear hix
  go_enter Try.func12, Try.ntmps12
  go_wp2_with (go_at_call 13; go_loud (refine (RC.out _ (Kd.C_alloc HR.out _)).mono ?_; rintro e w1 ⟨rfl, hb⟩; have HG := Aside0.mk (blk_below (blk_new w _) hb); have HB1 := Aside0.mk (below_step (below_alloc (Below.refl _ _) _) hb); clear hb; obtain ⟨f0, f1, f2, f3, f4, f5, f6, f7, f8, f9, f10⟩ := cells11 HG.out; have gl := World.block_lt_of_cell? w1 _ f1; dsimp only at gl))
  have HO := Aside0.mk (own_four w1 w1 (Nat.le_refl _) 71 86 1 n0)
  clear f0 f1 f2 f3 f4 f5 f6 f7 f8 f9 f10
  go_loopw [4, 43] (fun v i wr => NumRel w1 [71, 86, 1, n0] [n1, n2, n3, n4, n5, n6, n7, n8, n9] v i wr) (fun _ i _ => 9 - (intOf i).toNat)
  case atStart => exact ⟨0, by omega, rfl, HO.out, below_alloc (Below.refl _ _) _⟩
  case round =>
    clear HO
    obtain ⟨j, hj, rfl, hO, hB⟩ := hrel
    have HO := Aside0.mk hO
    have HB := Aside0.mk hB
    clear hO hB
    by_cases hlt : j < 9
    · have hlt2 : (j : Int) < 9 := by omega
      have hx := HIX.out j hlt
      have hft := flat_take [n1, n2, n3, n4, n5, n6, n7, n8, n9] j hlt
      obtain ⟨m, hm⟩ : ∃ m, [n1, n2, n3, n4, n5, n6, n7, n8, n9].getD j 0 = m := ⟨_, rfl⟩
      rw [hm] at hx hft
      have HLN : Aside0 (([71, 86, 1, n0] ++ ([n1, n2, n3, n4, n5, n6, n7, n8, n9].take j).flatMap e8).length ≤ 1000) := Aside0.mk (by rw [List.length_append, flat_len, List.length_take]; simp; omega)
      have HFT := Aside0.mk hft
      clear hft hm
      go_wp2_with (go_at_call 20; go_loud (refine (put_c _ m HLN.out w1 _ HB.out _ HO.out).mono ?_; rintro e w2 ⟨v2, rfl, ho, hb⟩; have HO2 := Aside0.mk ho; have HB2 := Aside0.mk hb; clear ho hb))
      go_roundw
      case rel => exact ⟨j + 1, by omega, by go_num, by rw [HFT.out, ← List.append_assoc]; exact HO2.out, HB2.out⟩
      case measure => simp [intOf]; omega
    · obtain rfl : j = 9 := by omega
      have HO2 := Aside0.mk (show Own w1 wr _ ([71, 86, 1, n0] ++ nums n1 n2 n3 n4 n5 n6 n7 n8 n9) by simpa [nums] using HO.out)
      have HLN : Aside0 (([71, 86, 1, n0] ++ nums n1 n2 n3 n4 n5 n6 n7 n8 n9).length = 76) := Aside0.mk rfl
      clear hlt hj HO
      obtain ⟨hd, hhd⟩ : ∃ hd, [71, 86, 1, n0] ++ nums n1 n2 n3 n4 n5 n6 n7 n8 n9 = hd := ⟨_, rfl⟩
      rw [hhd] at HO2 HLN
      have HHD := Aside0.mk hhd
      clear hhd
      have f10 := (cells11 (blk_below HG.out HB.out)).2.2.2.2.2.2.2.2.2.2
      have gr := World.block_lt_of_cell? wr _ f10
      dsimp only at gr
      go_wp2_with (at_builtin; go_loud (refine append_own (w0 := w1) (xs := hd) (m := [n]) rfl _ _ rfl rfl (HO2.out.alloc _) (HB.out.alloc HB.out.size _) ⟨wr.heap.size, 0, none⟩ 1 1 rfl rfl ?_ (by omega) (by have := HLN.out; omega) ?_; (exact World.news_of_block (heap_alloc_new wr _)); intro v2 w2 ho hb hk; have HO3 := Aside0.mk ho; have HB3 := Aside0.mk hb; have g10 := (cells11 (blk_below HG.out hb)).2.2.2.2.2.2.2.2.2.2; clear ho hb hk f10 gr))
      clear g10
      go_loopw [4, 60] (fun v i wr => EntRel w1 (hd ++ [n]) l v i wr) (fun _ i _ => n - (intOf i).toNat)
      case atStart => exact ⟨0, Nat.zero_le _, rfl, by rw [List.take_zero, List.flatMap_nil, List.append_nil]; exact HO3.out, HB3.out⟩
      case round =>
        clear HO3 HB3 HO2 HB
        obtain ⟨k, hk, rfl, hO, hB⟩ := hrel
        rw [HN.out] at hk
        have HO := Aside0.mk hO
        have HB := Aside0.mk hB
        clear hO hB
        by_cases hlt : k < n
        · obtain ⟨ad, hA, h0, h1⟩ := at_T48 HR.out (k : Int) (by omega) (by omega)
          have hent := ents_take l k (by have := HN.out; omega)
          have hmem : rd_T48 l (k : Int) ∈ l := by
            unfold rd_T48
            rw [List.getD_eq_getElem?_getD, Int.toNat_natCast, List.getElem?_eq_getElem (by have := HN.out; omega : k < l.length)]
            exact List.getElem_mem _
          obtain ⟨e, he⟩ : ∃ e, rd_T48 l (k : Int) = e := ⟨_, rfl⟩
          rw [he] at h0 h1 hent hmem
          rw [Int.toNat_natCast] at h0 h1
          subst hA
          obtain ⟨e1, e2, e3, e4⟩ := HE.out e hmem
          obtain ⟨x, hx⟩ : ∃ x : Nat, e.f0 = x := ⟨e.f0.toNat, by omega⟩
          obtain ⟨y, hy⟩ : ∃ y : Nat, e.f1 = y := ⟨e.f1.toNat, by omega⟩
          have hen : ent e = e8 x ++ [y] := by unfold ent; rw [hx, hy]; rfl
          rw [hx] at h0 e1 e2
          rw [hy] at h1 e3 e4
          rw [hen] at hent
          have hbw := below_step HB1.out HB.out
          replace h0 := (hbw.cell (World.block_lt_of_cell? w _ h0)).trans h0
          replace h1 := (hbw.cell (World.block_lt_of_cell? w _ h1)).trans h1
          have HLE : Aside0 (((hd ++ [n]) ++ (l.take k).flatMap ent).length ≤ 900) := Aside0.mk (by
            have := HLN.out
            rw [List.length_append, ents_len, List.length_append, List.length_take]
            simp
            omega)
          obtain ⟨zs, hzs⟩ : ∃ zs, (hd ++ [n]) ++ (l.take k).flatMap ent = zs := ⟨_, rfl⟩
          rw [hzs] at HLE HO
          have hent2 : (hd ++ [n]) ++ (l.take (k + 1)).flatMap ent = zs ++ e8 x ++ [y] := by rw [hent, ← hzs, List.append_assoc, List.append_assoc, List.append_assoc, List.append_assoc]
          have HENT := Aside0.mk hent2
          clear hent hent2 hen hmem he hx hy hbw hzs
          go_upto_region 13 with fail
          obtain ⟨g8, hg8⟩ : ∃ g8, wr.heap.size = g8 := ⟨_, rfl⟩
          obtain ⟨we, hwe⟩ : ∃ we, we = wr.alloc (.cells #[.int .i64 x, .int .i64 y] 48) := ⟨_, rfl⟩
          have HG8 := Aside0.mk (show we.heap[g8]? = some (.cells #[.int .i64 x, .int .i64 y] 48 (0, 0)) by rw [hwe, ← hg8]; exact heap_alloc_new wr _)
          have HNE := Aside0.mk (show some g8 ≠ Value.ownBlock _ from fun e => by have := (HO.out.lt e.symm).2; omega)
          have HOE := Aside0.mk (hwe ▸ HO.out.alloc _ : Own w1 we _ _)
          have HNE2 := Aside0.mk (show some we.heap.size ≠ Value.ownBlock _ from fun e => by have := (HOE.out.lt e.symm).2; omega)
          have HBE := Aside0.mk (hwe ▸ HB.out.alloc HB.out.size _ : Below w1.heap.size w1 we)
          rw [← hwe, hg8]
          obtain ⟨c0, c1⟩ := cells2 HG8.out
          have hgs := World.block_lt_of_cell? we _ c0
          dsimp only at hgs
          have hwx : IntKind.u64.wrap (x : Int) = x := by rw [wrap_u64]; omega
          have hwy : IntKind.u8.wrap (y : Int) = y := by rw [HandC.wrap_u8]; omega
          clear hwe hg8 HO HB
          go_region_held3 (fun w' => w'.cell? ⟨g8, 0, none⟩ = some (.int .i64 x) ∧ w'.cell? ⟨g8, 1, none⟩ = some (.int .i64 y)) (first | exact ⟨by assumption, by assumption⟩ | go_keep)
            (first
            | (go_at_call 20; go_loud (with_reducible refine (put_k zs x (Nat.le_trans HLE.out (by decide)) w1 _ (by repeat (first | exact HBE.out | apply below_alloc | apply below_drew)) _ (by repeat (first | exact HOE.out | apply Own.alloc | apply Own.drew))).mono ?_; rintro e w2 ⟨v2, rfl, ho, hb, hk, hv⟩; have HNV := Aside0.mk (show some g8 ≠ v2.ownBlock from fun e => (hv g8 e.symm).elim (fun h => absurd h HNE.out) (fun h => by simp at h; omega)); have hq : w2.heap[g8]? = some (.cells #[.int .i64 x, .int .i64 y] 48 (0, 0)) := (hk g8 (by first | omega | (simp; omega)) HNE.out).trans (by first | exact HG8.out | exact blk_drew HG8.out | exact blk_alloc HG8.out _ | exact blk_drew (blk_alloc HG8.out _) | exact blk_drew (blk_alloc (blk_drew HG8.out) _) | exact blk_alloc (blk_drew HG8.out) _); (try have hl : w2.heap[we.heap.size]? = some (.cells #[.int .u8 y] 5 (0, 0)) := (hk we.heap.size (by simp) HNE2.out).trans (blk_drew (heap_alloc_new we (.cells #[.int .u8 y] 5)))); have HO2 := Aside0.mk ho; have HB2 := Aside0.mk hb; have HQ := Aside0.mk hq; obtain ⟨d0, d1⟩ := cells2 hq; have hgs2 := World.block_lt_of_cell? w2 _ d0; dsimp only at hgs2; clear ho hb hk hq hv))
            | (refine append_own_step (w0 := w1) (xs := zs ++ e8 x) (m := [y]) (by rfl) _ _ (by rfl) (by rfl) (HO2.out.alloc _) (below_alloc HB2.out _) ⟨w2.heap.size, 0, none⟩ 1 1 (by rfl) rfl (World.news_of_block (heap_alloc_new w2 _)) (by omega) (by have := HLE.out; rw [List.length_append, e8_length]; omega) ?_; intro v3 w3 ho hb hk; have hq3 : w3.heap[g8]? = some (.cells #[.int .i64 x, .int .i64 y] 48 (0, 0)) := (hk g8 (by first | omega | (simp; omega)) HNV.out).trans (by first | exact HQ.out | exact blk_alloc HQ.out _ | exact blk_drew HQ.out); obtain ⟨q0, q1⟩ := cells2 hq3; have HO3 := Aside0.mk ho; have HB3 := Aside0.mk hb; clear ho hb hk hq3)
            | (go_loud (refine append_own_step (w0 := w1) (xs := zs ++ e8 x) (m := [y]) (by rfl) _ _ (by rfl) (by rfl) HO2.out HB2.out ⟨we.heap.size, 0, none⟩ 1 1 (by rfl) rfl (World.news_of_block hl) (by omega) (by have := HLE.out; rw [List.length_append, e8_length]; omega) ?_; intro v3 w3 ho hb hk; have hq3 : w3.heap[g8]? = some (.cells #[.int .i64 x, .int .i64 y] 48 (0, 0)) := (hk g8 (by first | omega | (simp; omega)) HNV.out).trans (by first | exact HQ.out | exact blk_alloc HQ.out _ | exact blk_drew HQ.out); obtain ⟨q0, q1⟩ := cells2 hq3; have HO3 := Aside0.mk ho; have HB3 := Aside0.mk hb; clear ho hb hk hq3)))
          all_goals clear hwx hwy
          all_goals go_wp2
          all_goals go_roundw
          case rel => exact ⟨k + 1, by have := HN.out; omega, by go_num, by rw [HENT.out]; exact HO3.out, HB3.out⟩
          case measure => simp [intOf]; omega
          case rel => exact ⟨k + 1, by have := HN.out; omega, by go_num, by rw [HENT.out]; exact HO3.out, HB3.out⟩
          case measure => simp [intOf]; omega
        · obtain rfl : k = n := by omega
          have hfull : hd ++ [k] ++ (l.take k).flatMap ent = body n0 n1 n2 n3 n4 n5 n6 n7 n8 n9 l := by
            rw [List.take_of_length_le (by have := HN.out; omega), ← HHD.out, ← HN.out]
            rfl
          have HO2 := Aside0.mk (hfull ▸ HO.out : Own w1 wr _ (body n0 n1 n2 n3 n4 n5 n6 n7 n8 n9 l))
          clear HO hfull
          have hlt2 := body_lt n0 n1 n2 n3 n4 n5 n6 n7 n8 n9 l (by omega) (by have := HN.out; omega) (fun x hx => by have := HE.out x hx; omega)
          obtain ⟨ba, bc, hv, hby, hne⟩ := own_bytes HO2.out hlt2
          have hs16 : HandC.crc 0 (body n0 n1 n2 n3 n4 n5 n6 n7 n8 n9 l) < 65536 := HandC.crc_lt _ 0 (by decide) hlt2
          have henc : enc n0 n1 n2 n3 n4 n5 n6 n7 n8 n9 l = body n0 n1 n2 n3 n4 n5 n6 n7 n8 n9 l ++ sum16 (body n0 n1 n2 n3 n4 n5 n6 n7 n8 n9 l) := rfl
          have hbl : (body n0 n1 n2 n3 n4 n5 n6 n7 n8 n9 l).length ≤ 900 := by
            rw [body_length]
            have := HN.out
            omega
          obtain ⟨bo, hbo⟩ : ∃ bo, body n0 n1 n2 n3 n4 n5 n6 n7 n8 n9 l = bo := ⟨_, rfl⟩
          unfold sum16 at henc
          rw [hbo] at HO2 hv hby hs16 henc hbl hne
          obtain ⟨s, hs⟩ : ∃ s, HandC.crc 0 bo = s := ⟨_, rfl⟩
          obtain ⟨p, hp⟩ : ∃ p, s / 256 = p := ⟨_, rfl⟩
          obtain ⟨q, hq⟩ : ∃ q, s % 256 = q := ⟨_, rfl⟩
          rw [hs] at hs16 henc
          rw [hp, hq] at henc
          have hp2 : (s : Int) / 256 = p := by omega
          have hq2 : IntKind.u8.wrap (s : Int) = q := by rw [HandC.wrap_u8]; omega
          have hp3 : IntKind.u8.wrap (p : Int) = p := by rw [HandC.wrap_u8]; omega
          have HENC := Aside0.mk henc
          have HBY := Aside0.mk hby
          have HNE := Aside0.mk hne
          have HS := Aside0.mk hs
          obtain ⟨g4, hg4⟩ : ∃ g4, wr.heap.size = g4 := ⟨_, rfl⟩
          have HG4 := Aside0.mk hg4
          have HBL := Aside0.mk hbl
          subst hv
          clear hs hby hne henc hbo hlt2 hp hq hg4 hbl
          go_wp2_with (first
            | (go_at_call 21; go_loud (refine (HandS.new_c _).mono ?_; rintro e w2 ⟨rfl, hh, hb⟩; rw [HG4.out] at hh ⊢; have HH := Aside0.mk hh; have HB2 := Aside0.mk hb; clear hh hb))
            | (go_at_call 22; go_loud (refine (HandS.sum_c w2 g4 (.inl HH.out) ba bc _ bo (HBY.out.below HB2.out) (fun ad e hp e2 => by have := (HO2.out.lt (HNE.out ad e hp)).2; have := HG4.out; omega)).mono ?_; rintro e w3 ⟨rfl, hh, hn⟩; rw [HS.out]; have HB3 := Aside0.mk (hn.to (HB.out.trans (HB2.out.mono HB.out.size)) (by have := HB.out.size; have := HG4.out; omega) (Nat.le_refl _) : Below w1.heap.size w1 w3); have HO3 := Aside0.mk ((HO2.out.below HB2.out).keep (w' := w3) (fun k hk => hn.block k (((HO2.out.below HB2.out).lt hk).2) (fun e => by have := (HO2.out.lt hk).2; have := HG4.out; omega))); clear hh hn))
            | (at_builtin; go_loud (refine append_own (w0 := w1) (xs := bo) (m := [p, q]) rfl _ _ rfl rfl (HO3.out.alloc _) (HB3.out.alloc HB3.out.size _) ⟨w3.heap.size, 0, none⟩ 2 2 rfl rfl ?_ (by omega) (by have := HBL.out; omega) ?_; (exact World.news_of_block (heap_alloc_new w3 _)); intro v4 w4 ho hb hk; have HO4 := Aside0.mk ho; have HB4 := Aside0.mk hb; clear ho hb hk)))
          go_ret2
          exact ⟨_, rfl, by rw [HENC.out]; exact Kd.R_lower HO4.out HB1.out.size, HB1.out.trans (HB4.out.mono HB1.out.size)⟩
end Go.Proofs.Ytldiipomcenbkaa.Qw
