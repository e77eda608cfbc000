/- The section of a packet, by hand: a closure that is asked of all ahead. -/
import Derived.Test.YtldiipomcenbkaaQb
import Derived.Tactics2
import Derived.Deep.Cut
namespace Go.Proofs.Ytldiipomcenbkaa.Qw
open Go.RowKit Go.Proofs.YtldiipomcenbkaaW.PrintWords Go.Proofs.YtldiipomcenbkaaW.PrintLast Go.Proofs.YtldiipomcenbkaaW.PrintMore
set_option linter.unusedVariables false
set_option linter.unusedSimpArgs false
def idB (n : Int) : Bool := decide (1 ≤ n) && decide (n ≤ 4294967296)
theorem id_at (n : Int) (w : World) : Calls Try.prog 23 #[.int .i64 n] w fun e w' => e = .returned (.bool (idB n)) ∧ w' = w := by
  unfold idB
  cases h : decide (1 ≤ n) with
  | false =>
    go_enter Try.func23, Try.ntmps23
    go_wp2
    go_ret
    exact ⟨rfl, rfl⟩
  | true =>
    go_enter Try.func23, Try.ntmps23
    go_wp2
    go_ret
    exact ⟨rfl, rfl⟩
def idxFrom (p : S48 → Bool) (k : Int) : List S48 → Int
  | [] => -1
  | e :: l => if p e = true then k else idxFrom p (k + 1) l
def IdxRel (l : List S48) (p : S48 → Bool) (r : Int) (w0 : World) (i : Value) (wr : World) : Prop :=
  ∃ k : Nat, k ≤ l.length ∧ i = .int .i64 k ∧ Below w0.heap.size w0 wr ∧ idxFrom p k (l.drop k) = r
theorem drop_at (l : List S48) (k : Nat) (h : k < l.length) : l.drop k = rd_T48 l (k : Int) :: l.drop (k + 1) := by
  rw [List.drop_eq_getElem_cons h]
  congr 1
  unfold rd_T48
  rw [List.getD_eq_getElem?_getD, Int.toNat_natCast, List.getElem?_eq_getElem h]
  rfl
theorem take_at (l : List S48) (k : Nat) (h : k < l.length) : l.take (k + 1) = l.take k ++ [rd_T48 l (k : Int)] := by
  rw [List.take_succ_eq_append_getElem h]
  congr 1
  unfold rd_T48
  rw [List.getD_eq_getElem?_getD, Int.toNat_natCast, List.getElem?_eq_getElem h]
  rfl
theorem idxFrom_any (p : S48 → Bool) (l : List S48) : ∀ k : Int, 0 ≤ k → decide (0 ≤ idxFrom p k l) = l.any p := by
  induction l with
  | nil => intro k hk; rfl
  | cons e l ih =>
    intro k hk
    unfold idxFrom
    by_cases h : p e = true
    · rw [if_pos h]
      simp [h, hk]
    · rw [if_neg h, ih (k + 1) (by omega)]
      simp [h]
def sameId (y : Int) (o : S48) : Bool := o.f0 == y
set_option maxRecDepth 100000 in
theorem closure_c (a b y : Int) (g : Nat) (w : World) (h : w.cell? ⟨g, 0, none⟩ = some (.int .i64 y)) :
    Calls Try.prog 38 #[.agg #[.int .i64 a, .int .i64 b], .pointer (some ⟨g, 0, none⟩)] w fun e w' => e = .returned (.bool (a == y)) ∧ Below w.heap.size w w' := by
  have l2 := World.block_lt_of_cell? w _ h
  dsimp only at l2
  go_enter Try.func38, Try.ntmps38
  go_wp2
  go_ret
  exact ⟨rfl, (Below.refl _ _).alloc (Nat.le_refl _) _⟩
set_option maxRecDepth 100000 in
set_option maxHeartbeats 1000000 in
theorem index_at (g : Nat) (y : Int) (A0 : Option Addr) (c0 : Nat) (l0 : List S48) (w : World) (hr0 : Kd.C k48 w A0 l0.length l0) (hg : w.cell? ⟨g, 0, none⟩ = some (.int .i64 y)) :
    Calls Try.prog 41 #[.slice A0 l0.length c0, .func (.func 38) #[] #[.pointer (some ⟨g, 0, none⟩)]] w fun e w' => e = .returned (.int .i64 (idxFrom (sameId y) 0 l0)) ∧ Below w.heap.size w w' := by
  have hlen := hr0.2.1
  have HR := Aside0.mk hr0
  have HP := Aside0.mk hg
  clear hr0 hg
  go_enter Try.func41, Try.ntmps41
  go_wp2
  go_loopw [8] (fun i wr => IdxRel l0 (sameId y) (idxFrom (sameId y) 0 l0) w i wr) (fun i _ => l0.length - (intOf i).toNat)
  case atStart => exact ⟨0, Nat.zero_le _, rfl, Below.refl _ _, rfl⟩
  case round =>
    obtain ⟨k, hk, rfl, hB, hr⟩ := hrel
    have HB := Aside0.mk hB
    have HRR := Aside0.mk hr
    clear hB hr
    by_cases hlt : k < l0.length
    · obtain ⟨ad, hA, h0, h1⟩ := at_T48 HR.out (k : Int) (by omega) (by omega)
      have hd := drop_at l0 k hlt
      obtain ⟨e, he⟩ : ∃ e, rd_T48 l0 (k : Int) = e := ⟨_, rfl⟩
      rw [he] at h0 h1 hd
      rw [Int.toNat_natCast] at h0 h1
      subst hA
      replace h0 := (HB.out.cell (World.block_lt_of_cell? w _ h0)).trans h0
      replace h1 := (HB.out.cell (World.block_lt_of_cell? w _ h1)).trans h1
      have CC := Aside0.mk (closure_c e.f0 e.f1 y g wr (pw_cell_below HB.out HP.out))
      have HD := Aside0.mk hd
      clear hd he
      cases hpe : (e.f0 == y) with
      | true =>
        have hres : idxFrom (sameId y) 0 l0 = (k : Int) := by
          rw [← HRR.out, HD.out]
          simp only [idxFrom]
          rw [if_pos (show sameId y e = true from hpe)]
        have HRES := Aside0.mk hres
        clear hres
        rw [hpe] at CC
        clear hpe
        go_wp2_with (go_at_call 38; go_loud (refine CC.out.mono ?_; rintro e1 w1 ⟨rfl, hb1⟩; have HB1 := Aside0.mk (below_step HB.out hb1); clear hb1))
        go_ret
        exact ⟨by rw [HRES.out]; rfl, HB1.out⟩
      | false =>
        have hres : idxFrom (sameId y) ((k + 1 : Nat) : Int) (l0.drop (k + 1)) = idxFrom (sameId y) 0 l0 := by
          rw [← HRR.out, HD.out]
          simp only [idxFrom]
          rw [show sameId y e = false from hpe, if_neg (by decide)]
          rfl
        have HRES := Aside0.mk hres
        clear hres
        rw [hpe] at CC
        clear hpe
        go_wp2_with (go_at_call 38; go_loud (refine CC.out.mono ?_; rintro e1 w1 ⟨rfl, hb1⟩; have HB1 := Aside0.mk (below_step HB.out hb1); clear hb1))
        go_roundw
        case rel => exact ⟨k + 1, by omega, by go_num, HB1.out, HRES.out⟩
        case measure => simp [intOf]; omega
    · obtain rfl : k = l0.length := by omega
      have hres : idxFrom (sameId y) 0 l0 = -1 := by
        rw [← HRR.out, List.drop_length]
        rfl
      have HRES := Aside0.mk hres
      clear hres
      go_wp2
      go_ret
      exact ⟨by rw [HRES.out]; rfl, HB.out⟩
set_option maxRecDepth 100000 in
theorem contains_at (g : Nat) (y : Int) (A0 : Option Addr) (c0 : Nat) (l0 : List S48) (w : World) (hr0 : Kd.C k48 w A0 l0.length l0) (hg : w.cell? ⟨g, 0, none⟩ = some (.int .i64 y)) (q : Bool) (hq : l0.any (sameId y) = q) :
    Calls Try.prog 37 #[.slice A0 l0.length c0, .func (.func 38) #[] #[.pointer (some ⟨g, 0, none⟩)]] w fun e w' => e = .returned (.bool q) ∧ Below w.heap.size w w' := by
  have HC := Aside0.mk (index_at g y A0 c0 l0 w hr0 hg)
  have hx := idxFrom_any (sameId y) l0 0 (by decide)
  rw [hq] at hx
  clear hr0 hg hq
  obtain ⟨r, hr⟩ : ∃ r, idxFrom (sameId y) 0 l0 = r := ⟨_, rfl⟩
  rw [hr] at HC hx
  have HX := Aside0.mk hx
  clear hr hx
  go_enter Try.func37, Try.ntmps37
  go_wp2_with (go_at_call 41; go_loud (refine HC.out.mono ?_; rintro e1 w1 ⟨rfl, hb1⟩; have HB1 := Aside0.mk hb1; clear hb1))
  go_ret
  exact ⟨by rw [← HX.out]; rfl, HB1.out⟩
theorem C_take {w : World} {A : Option Addr} {l : List S48} (h : Kd.C k48 w A l.length l) (k : Nat) (hk : k ≤ l.length) : Kd.C k48 w A (l.take k).length (l.take k) := by
  refine ⟨rfl, by have := h.2.1; simp; omega, fun hn => ?_⟩
  obtain ⟨ad, e, hc⟩ := h.2.2 (by simp at hn; omega)
  refine ⟨ad, e, fun j p hj => hc j p ?_⟩
  rw [List.getElem?_take] at hj
  split at hj
  · exact hj
  · cases hj
def okEntry (fr : Int) (x : S48) : Bool := idB x.f0 && !(x.f0 == fr) && !decide (x.f1 < 0) && !decide (x.f1 > 2)
/-- What is told of others is right, behind those that were seen. -/
def secB (fr : Int) : List S48 → List S48 → Bool
  | _, [] => true
  | seen, x :: r => okEntry fr x && !seen.any (sameId x.f0) && secB fr (seen ++ [x]) r
def sizeB (kind : Int) (n : Nat) : Bool := decide (n = 0) || (decide (kind ≤ 3) && decide (n ≤ 3))
def wire_Packet_section.f (a0_0 : Int) (a0_1 : Int) (a0_2 : Int) (a0_3 : Int) (a0_4 : Int) (a0_5 : Int) (a0_6 : Int) (a0_7 : Int) (a0_8 : Int) (a0_9 : Int) (l0_10 : List S48) : Option Bool := some (secB a0_1 [] l0_10 && sizeB a0_0 l0_10.length)
def SecRel (fr : Int) (l : List S48) (w0 : World) (i : Value) (wr : World) : Prop :=
  ∃ k : Nat, k ≤ l.length ∧ i = .int .i64 k ∧ Below w0.heap.size w0 wr ∧ secB fr (l.take k) (l.drop k) = secB fr [] l
theorem sec_cells {w : World} {g : Nat} {x0 x1 x2 x3 x4 x5 x6 x7 x8 x9 x10 : Value} (h : w.heap[g]? = some (.cells #[x0, x1, x2, x3, x4, x5, x6, x7, x8, x9, x10] 26 (0, 0))) :
    w.cell? ⟨g, 0, none⟩ = some x0 ∧ w.cell? ⟨g, 1, none⟩ = some x1 ∧ w.cell? ⟨g, 10, none⟩ = some x10 :=
  ⟨(blk_cell h 0).trans rfl, (blk_cell h 1).trans rfl, (blk_cell h 10).trans rfl⟩
set_option maxRecDepth 100000 in
set_option maxHeartbeats 4000000 in
theorem section_walk (a0 a1 a2 a3 a4 a5 a6 a7 a8 a9 : Int) (A : Option Addr) (c : Nat) (l : List S48) (w : World) (hr : Kd.C k48 w A l.length l) (hc : l.length ≤ c) :
    Calls Try.prog 26 #[.agg #[.int .i64 a0, .int .i64 a1, .int .i64 a2, .int .i64 a3, .int .i64 a4, .int .u64 a5, .int .i64 a6, .int .i64 a7, .int .i64 a8, .int .u64 a9, .slice A l.length c]] w fun e w' => e = .returned (.bool (secB a1 [] l && sizeB a0 l.length)) ∧ Below w.heap.size w w' := by
  have hmf : ∀ (fn : Fn) (first cap : Array Value) (w : World), (Instr.makeFunc fn first cap).run Try.prog w = .ok (.func fn first cap) w := fun _ _ _ _ => rfl
  have hlen := hr.2.1
  obtain ⟨n, hn⟩ : ∃ n, l.length = n := ⟨_, rfl⟩
  have hn' := hn
  rw [hn] at hlen hc
  have HR := Aside0.mk hr
  have HNN := Aside0.mk hn
  rw [hn']
  clear hr hn hn'
  go_enter Try.func26, Try.ntmps26
  go_wp2
  obtain ⟨g, hg⟩ : ∃ g, w.heap.size = g := ⟨_, rfl⟩
  obtain ⟨wb, hwb⟩ : ∃ wb, wb = w.alloc (.cells #[.int .i64 a0, .int .i64 a1, .int .i64 a2, .int .i64 a3, .int .i64 a4, .int .u64 a5, .int .i64 a6, .int .i64 a7, .int .i64 a8, .int .u64 a9, .slice A n c] 26) := ⟨_, rfl⟩
  rw [← hwb, hg]
  have HG := Aside0.mk (show wb.heap[g]? = some (.cells #[.int .i64 a0, .int .i64 a1, .int .i64 a2, .int .i64 a3, .int .i64 a4, .int .u64 a5, .int .i64 a6, .int .i64 a7, .int .i64 a8, .int .u64 a9, .slice A n c] 26 (0, 0)) by rw [hwb, ← hg]; exact blk_new w _)
  have HWB := Aside0.mk (show Below w.heap.size w wb by rw [hwb]; exact below_alloc (Below.refl _ _) _)
  clear hwb hg
  go_loopw [8] (fun i wr => SecRel a1 l wb i wr) (fun i _ => n - (intOf i).toNat)
  case atStart => exact ⟨0, Nat.zero_le _, rfl, Below.refl _ _, rfl⟩
  case round =>
    obtain ⟨k, hk, rfl, hB, hs⟩ := hrel
    rw [HNN.out] at hk
    obtain ⟨f0, f1, f10⟩ := sec_cells (blk_below HG.out hB)
    have gl := World.block_lt_of_cell? wr _ f1
    dsimp only at gl
    have HB := Aside0.mk hB
    have HS := Aside0.mk hs
    clear hB hs
    by_cases hlt : k < n
    · obtain ⟨ad, hA, h0, h1⟩ := at_T48 HR.out (k : Int) (by omega) (by have := HNN.out; omega)
      have hd := drop_at l k (by have := HNN.out; omega)
      have ht := take_at l k (by have := HNN.out; omega)
      obtain ⟨e, he⟩ : ∃ e, rd_T48 l (k : Int) = e := ⟨_, rfl⟩
      rw [he] at h0 h1 hd ht
      rw [Int.toNat_natCast] at h0 h1
      subst hA
      have hbw := below_step HWB.out HB.out
      replace h0 := (hbw.cell (World.block_lt_of_cell? w _ h0)).trans h0
      replace h1 := (hbw.cell (World.block_lt_of_cell? w _ h1)).trans h1
      have HD := Aside0.mk hd
      have HT := Aside0.mk ht
      have HBW := Aside0.mk hbw
      have hkc : k ≤ c := by omega
      clear hd ht he hbw
      have bad : okEntry a1 e = false → secB a1 [] l = false := fun h => by
        rw [← HS.out, HD.out]
        simp only [secB]
        rw [h]
        rfl
      cases h1c : idB e.f0 with
      | false =>
        have hres := Aside0.mk (bad (by unfold okEntry; rw [h1c]; rfl))
        have HI := Aside0.mk h1c
        clear bad h1c
        go_wp2_with (go_at_call 23; go_loud (refine (id_at e.f0 _).mono ?_; rintro e1 w1 ⟨rfl, rfl⟩; rw [HI.out]))
        go_ret
        exact ⟨by rw [hres.out]; rfl, HBW.out.alloc HBW.out.size _⟩
      | true =>
        have HI := Aside0.mk h1c
        cases h2c : (e.f0 == a1) with
        | true =>
          have hres := Aside0.mk (bad (by unfold okEntry; rw [h1c, h2c]; rfl))
          clear bad h1c
          go_wp2_with (go_at_call 23; go_loud (refine (id_at e.f0 _).mono ?_; rintro e1 w1 ⟨rfl, rfl⟩; rw [HI.out]))
          go_ret
          exact ⟨by rw [hres.out]; rfl, HBW.out.alloc HBW.out.size _⟩
        | false =>
          cases h3c : decide (e.f1 < 0) with
          | true =>
            have hres := Aside0.mk (bad (by unfold okEntry; rw [h1c, h2c, h3c]; rfl))
            clear bad h1c
            go_wp2_with (go_at_call 23; go_loud (refine (id_at e.f0 _).mono ?_; rintro e1 w1 ⟨rfl, rfl⟩; rw [HI.out]))
            go_ret
            exact ⟨by rw [hres.out]; rfl, HBW.out.alloc HBW.out.size _⟩
          | false =>
            cases h4c : decide (e.f1 > 2) with
            | true =>
              have hres := Aside0.mk (bad (by unfold okEntry; rw [h1c, h2c, h3c, h4c]; rfl))
              clear bad h1c
              go_wp2_with (go_at_call 23; go_loud (refine (id_at e.f0 _).mono ?_; rintro e1 w1 ⟨rfl, rfl⟩; rw [HI.out]))
              go_ret
              exact ⟨by rw [hres.out]; rfl, HBW.out.alloc HBW.out.size _⟩
            | false =>
              have hok : okEntry a1 e = true := by unfold okEntry; rw [h1c, h2c, h3c, h4c]; rfl
              have CT := Aside0.mk (C_take HR.out k (by have := HNN.out; omega))
              have htl : (l.take k).length = k := by have := HNN.out; simp; omega
              have hsec : secB a1 [] l = (!(l.take k).any (sameId e.f0) && secB a1 (l.take (k + 1)) (l.drop (k + 1))) := by
                rw [← HS.out, HD.out]
                simp only [secB]
                rw [hok, HT.out, Bool.true_and]
              obtain ⟨q, hq⟩ : ∃ q, (l.take k).any (sameId e.f0) = q := ⟨_, rfl⟩
              have GV : ∀ W1, Below w.heap.size w W1 → ∀ Be, W1.cell? ⟨Be, 0, none⟩ = some (.int .i64 e.f0) →
                  Calls Try.prog 37 #[.slice (some ad) k c, .func (.func 38) #[] #[.pointer (some ⟨Be, 0, none⟩)]] W1 fun e1 w' => e1 = .returned (.bool q) ∧ Below W1.heap.size W1 w' := by
                intro W1 hb Be k1
                have := contains_at Be e.f0 (some ad) c (l.take k) W1 (Kd.C_below CT.out hb) k1 q hq
                rw [htl] at this
                exact this
              rw [hq] at hsec
              have GVA := Aside0.mk GV
              have HSEC := Aside0.mk hsec
              have HBN := Aside0.mk (below_step HBW.out (below_alloc (Below.refl _ wr) (.cells #[.int .i64 e.f0, .int .i64 e.f1] 48)))
              have HBN2 := Aside0.mk (below_step HB.out (below_alloc (Below.refl _ wr) (.cells #[.int .i64 e.f0, .int .i64 e.f1] 48)))
              clear bad h1c GV hsec hok htl hq
              cases q with
              | true =>
                go_wp2_with (first
                  | (go_at_call 23; go_loud (refine (id_at e.f0 _).mono ?_; rintro e1 w1 ⟨rfl, rfl⟩; rw [HI.out]))
                  | (go_at_call 37; go_loud (refine (GVA.out _ HBN.out wr.heap.size (by simp)).mono ?_; rintro e1 w1 ⟨rfl, hb1⟩; have HB1 := Aside0.mk (below_step HBN.out hb1); clear hb1)))
                go_ret
                exact ⟨by rw [HSEC.out]; rfl, HB1.out⟩
              | false =>
                go_wp2_with (first
                  | (go_at_call 23; go_loud (refine (id_at e.f0 _).mono ?_; rintro e1 w1 ⟨rfl, rfl⟩; rw [HI.out]))
                  | (go_at_call 37; go_loud (refine (GVA.out _ HBN.out wr.heap.size (by simp)).mono ?_; rintro e1 w1 ⟨rfl, hb1⟩; have HB1 := Aside0.mk (below_step HBN2.out hb1); clear hb1)))
                go_roundw
                case rel => exact ⟨k + 1, by have := HNN.out; omega, by go_num, HB1.out, by rw [HSEC.out]; rfl⟩
                case measure => simp [intOf]; omega
    · obtain rfl : k = n := by omega
      have hsec : secB a1 [] l = true := by
        rw [← HS.out, List.drop_of_length_le (by have := HNN.out; omega)]
        rfl
      have HSEC := Aside0.mk hsec
      have HBW := Aside0.mk (below_step HWB.out HB.out)
      clear hsec
      cases h0 : decide (k = 0) with
      | true =>
        obtain rfl : k = 0 := of_decide_eq_true h0
        clear h0
        go_wp2
        go_ret
        exact ⟨by rw [HSEC.out]; rfl, HBW.out⟩
      | false =>
        have hz : ((k : Int) == 0) = false := beq_eq_false_iff_ne.mpr (by have := of_decide_eq_false h0; omega)
        have hsz : sizeB a0 k = (decide (a0 ≤ 3) && decide (k ≤ 3)) := by unfold sizeB; rw [h0]; rfl
        have HSZ := Aside0.mk hsz
        clear h0 hsz
        cases h3 : decide (a0 ≤ 3) with
        | false =>
          go_wp2
          go_ret
          exact ⟨by rw [HSEC.out, HSZ.out, h3]; rfl, HBW.out⟩
        | true =>
          cases h4 : decide (k ≤ 3) with
          | false =>
            have h5 : decide ((k : Int) ≤ 3) = false := decide_eq_false (by have := of_decide_eq_false h4; omega)
            have HX := Aside0.mk h4
            clear h4
            go_wp2
            go_ret
            exact ⟨by rw [HSEC.out, HSZ.out, h3, HX.out]; rfl, HBW.out⟩
          | true =>
            have h5 : decide ((k : Int) ≤ 3) = true := decide_eq_true (by have := of_decide_eq_true h4; omega)
            have HX := Aside0.mk h4
            clear h4
            go_wp2
            go_ret
            exact ⟨by rw [HSEC.out, HSZ.out, h3, HX.out]; rfl, HBW.out⟩
theorem wire_Packet_section.calls (a0_0 : Int) (a0_1 : Int) (a0_2 : Int) (a0_3 : Int) (a0_4 : Int) (a0_5 : Int) (a0_6 : Int) (a0_7 : Int) (a0_8 : Int) (a0_9 : Int) (A0_10 : Option Addr) (c0_10 : Nat) (l0_10 : List (S48)) (r : Bool) (w : World) (hr0_10 : Kd.C k48 w A0_10 l0_10.length l0_10) (hc0_10 : l0_10.length ≤ c0_10) (h : wire_Packet_section.f a0_0 a0_1 a0_2 a0_3 a0_4 a0_5 a0_6 a0_7 a0_8 a0_9 l0_10 = some r) :
    Calls Try.prog 26 #[.agg #[.int .i64 a0_0, .int .i64 a0_1, .int .i64 a0_2, .int .i64 a0_3, .int .i64 a0_4, .int .u64 a0_5, .int .i64 a0_6, .int .i64 a0_7, .int .i64 a0_8, .int .u64 a0_9, .slice A0_10 l0_10.length c0_10]] w fun e w' => e = .returned (.bool r) ∧ Below w.heap.size w w' := by
  have hh := Option.some.inj h
  have := section_walk a0_0 a0_1 a0_2 a0_3 a0_4 a0_5 a0_6 a0_7 a0_8 a0_9 A0_10 c0_10 l0_10 w hr0_10 hc0_10
  rw [hh] at this
  exact this
end Go.Proofs.Ytldiipomcenbkaa.Qw
