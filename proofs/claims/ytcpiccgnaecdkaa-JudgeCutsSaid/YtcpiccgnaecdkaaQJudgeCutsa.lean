/- The machine's side of JudgeCuts, part 1 of 1: functions and their contracts, printed by a program of this session. -/
import Derived.Test.YtcpiccgnaecdkaaProg
import Derived.Below
import Derived.Deep.Draws
import Derived.Deep.AppendLies
import Derived.Maps.AppendAt
import Derived.OwnWalk
import Derived.Laws.BytesArg
import Derived.Laws.MakeOwn
import Derived.Laws.OwnMore
import Derived.Deep.OwnRows
import Derived.Tactics
import Derived.Lib.ConvBytes
import Derived.Laws.Slices
import Derived.WalkKit
import Derived.KernelRfl
import Derived.RowKit3
import Derived.Deep.LoopGhost
import Derived.Deep.QuietTactic
import Derived.BigQuiet
import Derived.WideLaws
import Derived.Deep.DeepCutAuto
import Derived.Deep.CutBlock
import Derived.Deep.RegionHeld3
import Derived.Laws.Rows
import Derived.Lib.AppendStr
import Derived.ArgAppend
import Derived.Laws.IdiomCopy
import Derived.OrdersHeld
import Derived.Laws.BitsLemmas
import Derived.RowKit
import Derived.Test.YtcpiccgnaecdkaaWWords
import Derived.Test.YtcpiccgnaecdkaaWLast
import Derived.Test.YtcpiccgnaecdkaaWTab
import Derived.Test.YtcpiccgnaecdkaaWFour
import Derived.Test.YtcpiccgnaecdkaaWQPut
import Derived.Test.YtcpiccgnaecdkaaWApart
import Derived.Test.YtcpiccgnaecdkaaWArr
import Derived.Test.YtcpiccgnaecdkaaWZeros
import Derived.Test.YtcpiccgnaecdkaaWFoot
import Derived.Test.YtcpiccgnaecdkaaWKept
import Derived.Test.YtcpiccgnaecdkaaWShare
import Derived.Test.YtcpiccgnaecdkaaWN
import Derived.Test.YtcpiccgnaecdkaaWFootNe
import Derived.Test.YtcpiccgnaecdkaaWAt
import Derived.Test.YtcpiccgnaecdkaaWEqStruct
import Derived.Test.YtcpiccgnaecdkaaWRepsOne
import Derived.Test.YtcpiccgnaecdkaaWInv
import Derived.Test.YtcpiccgnaecdkaaWInvWords
import Derived.Test.YtcpiccgnaecdkaaWGuard
import Derived.Test.YtcpiccgnaecdkaaWNEv
import Derived.Test.YtcpiccgnaecdkaaWMore
import Derived.DeepKeys4
import Derived.Maps.Own
import Derived.Maps.OwnOps
import Derived.Maps.Views
namespace Go.Proofs.Ytcpiccgnaecdkaa.QJudgeCuts
open Go.RowKit Go.Proofs.YtcpiccgnaecdkaaW.PrintWords Go.Proofs.YtcpiccgnaecdkaaW.PrintLast Go.Proofs.YtcpiccgnaecdkaaW.PrintMore
attribute [local go_sem] max2_int min2_int max_two min_two max_three min_three max_four min_four   -- for this text's walks alone
set_option linter.unusedVariables false
set_option linter.unusedSimpArgs false

def errW : Option Int → Value
 | none => .nilIface
 | some c => .iface 0 (.int .i64 c)
theorem errW_none : errW none = .nilIface := rfl
theorem errW_some (c : Int) : errW (some c) = .iface 0 (.int .i64 c) := rfl

theorem info27 : (Try.prog.info? 27).map (fun i => (i.zero, i.size, i.bytes)) = some (some (.agg #[(.int .i64 0), (.int .i64 0), (.int .i64 0), (.int .i64 0), (.slice none 0 0)]), 5, 56) := by kernel_rfl
-- the values' own types
def rd_L1 (xs : List (List Int)) (i : Int) : (List Int) := xs.getD i.toNat ([] : List Int)
theorem at_L1 {w : World} {A : Option Addr} {n : Nat} {xs : List (List Int)} (h : Kd.C (Kd.slice 3 (Kd.int .i64)) w A n xs) (i : Int) (h0 : 0 ≤ i) (h1 : i < n) : ∃ ad A0 c0, A = some ad ∧ w.cell? (ad.add i.toNat) = some (.slice A0 (rd_L1 xs i).length c0) ∧ (rd_L1 xs i).length ≤ c0 ∧ (Kd.int .i64).C w A0 (rd_L1 xs i).length (rd_L1 xs i) := by
 obtain ⟨ad, c, e, _, hK, hc0⟩ := Kd.C_get h ([] : List Int) i h0 h1
 have hc : ∀ j u, c[j]? = some u → w.cell? (ad.add (i.toNat * 1 + j)) = some u := hc0
 obtain ⟨A0, c0, rfl, l0, g0⟩ := hK
 exact ⟨ad, A0, c0, e, by have hq := hc 0 _ rfl; rwa [Nat.mul_one, Nat.add_zero] at hq, l0, g0⟩

/-! #### struct type 27 -/
structure S27 where
 f0 : Int
 f1 : Int
 f2 : Int
 f3 : Int
 f4 : (List Int)
def z27 : S27 := ⟨(0 : Int), (0 : Int), (0 : Int), (0 : Int), ([] : List Int)⟩
def k27 : Kd S27 := Kd.iso (Kd.pair (Kd.int .i64) (Kd.pair (Kd.int .i64) (Kd.pair (Kd.int .i64) (Kd.pair (Kd.int .i64) (Kd.slice 3 (Kd.int .i64)))))) (fun x : S27 => (x.f0, x.f1, x.f2, x.f3, x.f4))
theorem k27_open {w : World} {x : S27} {cs : List Value} (h : k27.K w x cs) : ∃ A4 c4, cs = [.int .i64 x.f0, .int .i64 x.f1, .int .i64 x.f2, .int .i64 x.f3, .slice A4 x.f4.length c4] ∧ x.f4.length ≤ c4 ∧ (Kd.int .i64).C w A4 x.f4.length x.f4 := by
 obtain ⟨_, _, rfl, rfl, ⟨_, _, rfl, rfl, ⟨_, _, rfl, rfl, ⟨_, _, rfl, rfl, ⟨A4, c4, rfl, l4, g4⟩⟩⟩⟩⟩ := h
 exact ⟨A4, c4, rfl, l4, g4⟩
theorem k27_openM {w : World} {base : Nat} {ok : Nat → Prop} {x : S27} {cs : List Value} (h : k27.M w base ok x cs) : ∃ v4, cs = [.int .i64 x.f0, .int .i64 x.f1, .int .i64 x.f2, .int .i64 x.f3, v4] ∧ (Kd.int .i64).R 3 w base ok v4 x.f4 := by
 obtain ⟨_, _, rfl, rfl, ⟨_, _, rfl, rfl, ⟨_, _, rfl, rfl, ⟨_, _, rfl, rfl, ⟨v4, rfl, g4⟩⟩⟩⟩⟩ := h
 exact ⟨v4, rfl, g4⟩
theorem k27_mk (w : World) (x : S27) {A4 : Option Addr} {c4 : Nat} (l4 : x.f4.length ≤ c4) (g4 : (Kd.int .i64).C w A4 x.f4.length x.f4) : k27.K w x [.int .i64 x.f0, .int .i64 x.f1, .int .i64 x.f2, .int .i64 x.f3, .slice A4 x.f4.length c4] := ⟨[.int .i64 x.f0], [.int .i64 x.f1, .int .i64 x.f2, .int .i64 x.f3, .slice A4 x.f4.length c4], rfl, rfl, ⟨[.int .i64 x.f1], [.int .i64 x.f2, .int .i64 x.f3, .slice A4 x.f4.length c4], rfl, rfl, ⟨[.int .i64 x.f2], [.int .i64 x.f3, .slice A4 x.f4.length c4], rfl, rfl, ⟨[.int .i64 x.f3], [.slice A4 x.f4.length c4], rfl, rfl, ⟨A4, c4, rfl, l4, g4⟩⟩⟩⟩⟩
theorem k27_mkM (w : World) (base : Nat) (ok : Nat → Prop) (x : S27) {v4 : Value} (g4 : (Kd.int .i64).R 3 w base ok v4 x.f4) : k27.M w base ok x [.int .i64 x.f0, .int .i64 x.f1, .int .i64 x.f2, .int .i64 x.f3, v4] := ⟨[.int .i64 x.f0], [.int .i64 x.f1, .int .i64 x.f2, .int .i64 x.f3, v4], rfl, rfl, ⟨[.int .i64 x.f1], [.int .i64 x.f2, .int .i64 x.f3, v4], rfl, rfl, ⟨[.int .i64 x.f2], [.int .i64 x.f3, v4], rfl, rfl, ⟨[.int .i64 x.f3], [v4], rfl, rfl, ⟨v4, rfl, g4⟩⟩⟩⟩⟩
def rd_T27 (xs : List S27) (i : Int) : S27 := xs.getD i.toNat z27
theorem at_T27 {w : World} {A : Option Addr} {n : Nat} {xs : List S27} (h : Kd.C k27 w A n xs) (i : Int) (h0 : 0 ≤ i) (h1 : i < n) : ∃ ad A4 c4, A = some ad ∧ w.cell? (ad.add (i.toNat * 5)) = some (.int .i64 (rd_T27 xs i).f0) ∧ w.cell? ⟨(ad.add (i.toNat * 5)).block, (ad.add (i.toNat * 5)).off + 1, none⟩ = some (.int .i64 (rd_T27 xs i).f1) ∧ w.cell? ⟨(ad.add (i.toNat * 5)).block, (ad.add (i.toNat * 5)).off + 2, none⟩ = some (.int .i64 (rd_T27 xs i).f2) ∧ w.cell? ⟨(ad.add (i.toNat * 5)).block, (ad.add (i.toNat * 5)).off + 3, none⟩ = some (.int .i64 (rd_T27 xs i).f3) ∧ w.cell? ⟨(ad.add (i.toNat * 5)).block, (ad.add (i.toNat * 5)).off + 4, none⟩ = some (.slice A4 (rd_T27 xs i).f4.length c4) ∧ (rd_T27 xs i).f4.length ≤ c4 ∧ (Kd.int .i64).C w A4 (rd_T27 xs i).f4.length (rd_T27 xs i).f4 := by
 obtain ⟨ad, c, e, _, hK, hc0⟩ := Kd.C_get h z27 i h0 h1
 have hc : ∀ j u, c[j]? = some u → w.cell? (ad.add (i.toNat * 5 + j)) = some u := hc0
 obtain ⟨A4, c4, rfl, l4, g4⟩ := k27_open hK
 exact ⟨ad, A4, c4, e, hc 0 _ rfl, by rw [← add_field _ _ 1 (by omega)]; exact hc 1 _ rfl, by rw [← add_field _ _ 2 (by omega)]; exact hc 2 _ rfl, by rw [← add_field _ _ 3 (by omega)]; exact hc 3 _ rfl, by rw [← add_field _ _ 4 (by omega)]; exact hc 4 _ rfl, l4, g4⟩
/-! ### judge_Twice: function 10 -/
/-! A set of triples that the call keeps in a map. -/
open Go.Maps in
theorem law38 : Keyed Try.prog 38 := Keyed.of_law (deep_law_laid (by kernel_rfl) (m := 3) (by omega) (k := 38) (of_decide_eq_true (by kernel_rfl)) (by kernel_rfl) (by kernel_rfl))
def kv (t : Int × Int × Int) : Value := .agg #[.int .i64 t.1, .int .i64 t.2.1, .int .i64 t.2.2]
def wfT (t : Int × Int × Int) : Prop := (Lit.int .i64 t.1).wf = true ∧ (Lit.int .i64 t.2.1).wf = true ∧ (Lit.int .i64 t.2.2).wf = true
theorem keyLits38 (d : Nat) (t : Int × Int × Int) (h : wfT t) : Try.prog.keyLits (d + 2) 38 [.int .i64 t.1, .int .i64 t.2.1, .int .i64 t.2.2] = some [.int .i64 t.1, .int .i64 t.2.1, .int .i64 t.2.2] := by
 obtain ⟨h1, h2, h3⟩ := h
 have hc : Try.prog.cellsOf 38 = 3 := by kernel_rfl
 have hc3 : Try.prog.cellsOf 3 = 1 := by kernel_rfl
 simp [Program.keyLits, Try.underlying38, Try.underlying3, hc, hc3, h1, h2, h3]
theorem key38 (t : Int × Int × Int) (h : wfT t) : ∃ kl, keyOf Try.prog 38 (kv t) = some kl := by
 have hk : Try.prog.keyType 38 = true := by kernel_rfl
 have hf : (kv t).formed Try.prog 38 = true := by
  have hc : Try.prog.cellsOf 38 = 3 := by kernel_rfl
  simp [kv, Value.formed, Try.underlying38, hc]
 obtain ⟨d, hd⟩ : ∃ d, Try.prog.types.size + 1 = d + 2 := ⟨Try.prog.types.size - 1, by have : 1 ≤ Try.prog.types.size := of_decide_eq_true (by kernel_rfl); omega⟩
 refine ⟨.string (keyBytes [.int .i64 t.1, .int .i64 t.2.1, .int .i64 t.2.2]), ?_⟩
 unfold keyOf
 rw [Try.underlying38]
 simp only [hk, hf, Bool.and_self, if_true, hd]
 rw [show (kv t).cells.toList = [.int .i64 t.1, .int .i64 t.2.1, .int .i64 t.2.2] from rfl, keyLits38 d t h]
 rfl
/-- Block b of w is a map of at most n entries that holds just the triples of S. -/
def HasSet (w : World) (b n : Nat) (S : List (Int × Int × Int)) : Prop :=
 ∃ D : DataW Unit, w.ownsMap Try.prog 38 (plainElem Try.prog 4) b n D ∧ Maps.IsMap D ∧ ∀ t kl, keyOf Try.prog 38 (kv t) = some kl → D.atKey kl (.lit (.bool false)) = .lit (.bool (S.contains t))
theorem HasSet.made (w : World) : HasSet (w.alloc (.map #[] 0)) w.heap.size 0 [] :=
 ⟨.map [], World.ownsMap_made _ _ _ _, Maps.isMap_empty, fun t kl _ => rfl⟩
theorem HasSet.alloc {w : World} {b n : Nat} {S : List (Int × Int × Int)} (h : HasSet w b n S) (o : Obj) : HasSet (w.alloc o) b n S := by
 obtain ⟨D, h1, h2⟩ := h
 exact ⟨D, h1.alloc o, h2⟩
theorem HasSet.drew {w : World} {b n : Nat} {S : List (Int × Int × Int)} (h : HasSet w b n S) : HasSet w.drew b n S := h
theorem HasSet.mono {w : World} {b n m : Nat} {S : List (Int × Int × Int)} (h : HasSet w b n S) (hm : n ≤ m) : HasSet w b m S := by
 obtain ⟨D, h1, h2⟩ := h
 exact ⟨D, h1.mono hm, h2⟩
theorem zero4 (w : World) : (zeroValue 4).run Try.prog w = .ok (.bool false) w := by kernel_rfl
theorem plainElem_bool_inv {H : Type} {v : Value} {z : DataW H × List MemPlace} (h : plainElem Try.prog 4 v = some z) : ∃ x, v = .bool x ∧ z = (.lit (.bool x), []) := by
 unfold plainElem at h
 rw [Try.underlying4] at h
 cases v <;> simp at h
 exact ⟨_, rfl, h.symm⟩
/-- A look-up in the set. -/
theorem lookup_set (w : World) {ops : Array Oper} {rest : List Oper} {o : Oper} {a : Act} {Q : Exit → Act → World → Prop}
  (hg : o.guard = none) (m x : Operand) (hop : o.op = Op.lookup 36 m x false) (b n : Nat) (S : List (Int × Int × Int)) (hm : a.eval m = .map (some b)) (hS : HasSet w b n S) (t : Int × Int × Int) (ht : wfT t) (hx : a.eval x = kv t) (v : Bool) (hv : S.contains t = v)
  (hK : wpList Try.prog ops Q rest (a.put o.dst (.bool v)) w) : wpList Try.prog ops Q (o :: rest) a w := by
 obtain ⟨D, h1, _, h3⟩ := hS
 obtain ⟨kl, hkey⟩ := key38 t ht
 obtain ⟨v', ps, hrun, hv'⟩ := h1.lookup law38 Try.underlying36 (zero4 w) (plainElem_bool Try.underlying4 false) hkey
 obtain ⟨c, rfl, hc⟩ := plainElem_bool_inv hv'
 have h4 := h3 t kl hkey
 simp only [Prod.mk.injEq] at hc
 rw [h4] at hc
 have h5 : S.contains t = c := by injection hc.1 with h6; injection h6
 refine wpList_plain hg fun K' hK' => ?_
 unfold Oper.wp
 simp [execOp, hop, hm, hx, hrun, Result.andThen]
 exact hK' _ _ (hv.symm.trans h5 ▸ hK)
/-- A store into the set. -/
theorem store_set (w : World) {ops : Array Oper} {rest : List Oper} {o : Oper} {a : Act} {Q : Exit → Act → World → Prop}
  (hg : o.guard = none) (m x v : Operand) (hop : o.op = Op.mapUpdate 36 m x v) (b n : Nat) (S : List (Int × Int × Int)) (hm : a.eval m = .map (some b)) (hS : HasSet w b n S) (hn : n < maxLen) (t : Int × Int × Int) (ht : wfT t) (hx : a.eval x = kv t) (hv : a.eval v = .bool true)
  (hK : ∀ w', HasSet w' b (n + 1) (t :: S) → w.grownBy w' (some b) → wpList Try.prog ops Q rest (a.put o.dst undef) w') : wpList Try.prog ops Q (o :: rest) a w := by
 obtain ⟨D, h1, h2, h3⟩ := hS
 obtain ⟨kl, hkey⟩ := key38 t ht
 refine wpList_mapUpdate_own w hg m x v 36 hop 38 4 law38 Try.underlying36 (plainElem Try.prog 4) b n D hm h1 hn (kv t) (.bool true) kl hx hv hkey _ [] (plainElem_bool Try.underlying4 true) (fun w' k1 k2 => hK w' ⟨_, k1, ?_, fun s ks hs => ?_⟩ k2)
 ·obtain ⟨es, rfl⟩ := h2
  exact ⟨_, rfl⟩
 ·by_cases e : s = t
  ·subst e
   have : ks = kl := Option.some.inj (hs.symm.trans hkey)
   subst this
   rw [Maps.atKey_put_same h2 (law38.key hkey)]
   simp
  ·have hne : ks ≠ kl := fun e2 => e (by
    have := law38.inj hs (e2 ▸ hkey)
    simp only [kv, Value.agg.injEq, Array.mk.injEq, List.cons.injEq, Value.int.injEq, true_and, and_true] at this
    exact Prod.ext this.1 (Prod.ext this.2.1 this.2.2))
   rw [Maps.atKey_put_other hne, h3 s ks hs]
   have e2 : (s == t) = false := beq_eq_false_iff_ne.mpr e
   rw [List.contains_cons, e2, Bool.false_or]
/-! What was done twice. -/
def tr (e : S27) : Int × Int × Int := (e.f0, e.f1, e.f3)
def wfE (e : S27) : Prop := wfT (tr e)
instance (e : S27) : Decidable (wfE e) := by unfold wfE wfT; infer_instance
def twiceFrom (S : List (Int × Int × Int)) (i : Int) : List S27 → Int
 | [] => -1
 | e :: l => if e.f0 ≠ 1 ∧ e.f0 ≠ 3 then twiceFrom S (i + 1) l else if S.contains (tr e) = true then i else twiceFrom (tr e :: S) (i + 1) l
def judge_Twice.f (l0 : List S27) : Option Int := if ∀ e ∈ l0, wfE e then some (twiceFrom [] 0 l0) else none
theorem drop_at (l : List S27) (k : Nat) (h : k < l.length) : l.drop k = rd_T27 l (k : Int) :: l.drop (k + 1) := by
 unfold rd_T27
 rw [List.getD_eq_getElem?_getD, Int.toNat_natCast, List.getElem?_eq_getElem h]
 exact List.drop_eq_getElem_cons h
theorem rd_mem (l : List S27) (k : Nat) (h : k < l.length) : rd_T27 l (k : Int) ∈ l := by
 unfold rd_T27
 rw [List.getD_eq_getElem?_getD, Int.toNat_natCast, List.getElem?_eq_getElem h]
 exact List.getElem_mem h
def TwRel (l : List S27) (r : Int) (b : Nat) (w0 : World) (i : Value) (wr : World) : Prop :=
 ∃ (k : Nat) (S : List (Int × Int × Int)), k ≤ l.length ∧ i = .int .i64 k ∧ HasSet wr b k S ∧ Below w0.heap.size w0 wr ∧ b < wr.heap.size ∧ twiceFrom S k (l.drop k) = r
set_option maxRecDepth 100000 in
set_option maxHeartbeats 2000000 in
theorem twice_walk (A0 : Option Addr) (c0 : Nat) (l0 : List S27) (w : World) (hr0 : Kd.C k27 w A0 l0.length l0) (hw : ∀ e ∈ l0, wfE e) :
  Calls Try.prog 10 #[.slice A0 l0.length c0] w fun e w' => e = .returned (.int .i64 (twiceFrom [] 0 l0)) ∧ Below w.heap.size w w' := by
 have hmm := @run_makeMap Try.prog
 have hlen := hr0.2.1
 have HR := Aside0.mk hr0
 clear hr0
 have HW := Aside0.mk hw
 clear hw
 go_enter Try.func10, Try.ntmps10
 go_wp2
 go_loopw [10] (fun i wr => TwRel l0 (twiceFrom [] 0 l0) w.heap.size w i wr) (fun i _ => l0.length - (intOf i).toNat)
 case atStart => exact ⟨0, [], Nat.zero_le _, rfl, HasSet.made w, (Below.refl _ _).alloc (Nat.le_refl _) _, by simp, rfl⟩
 case round =>
  obtain ⟨k, S, hk, rfl, hS, hB, hb, hr⟩ := hrel
  have HS := Aside0.mk hS
  have HB := Aside0.mk hB
  have HRR := Aside0.mk hr
  clear hS hB hr
  by_cases hlt : k < l0.length
  rotate_left
  ·obtain rfl : k = l0.length := by omega
   have hres : twiceFrom [] 0 l0 = -1 := by
    rw [← HRR.out, List.drop_length]
    rfl
   have HRES := Aside0.mk hres
   clear hres
   go_wp2
   go_ret
   exact ⟨by rw [HRES.out]; rfl, HB.out⟩
  obtain ⟨ad, A4, c4, hA, h0, h1, h2, h3, h4, h5, h6⟩ := at_T27 HR.out (k : Int) (by omega) (by omega)
  have HE := Aside0.mk (HW.out _ (rd_mem l0 k hlt))
  have hd := drop_at l0 k hlt
  obtain ⟨e, he⟩ : ∃ e, rd_T27 l0 (k : Int) = e := ⟨_, rfl⟩
  rw [he] at h0 h1 h2 h3 h4 hd HE
  rw [Int.toNat_natCast] at h0 h1 h2 h3 h4
  subst hA
  replace h0 := (HB.out.cell (World.block_lt_of_cell? w _ h0)).trans h0
  replace h1 := (HB.out.cell (World.block_lt_of_cell? w _ h1)).trans h1
  replace h2 := (HB.out.cell (World.block_lt_of_cell? w _ h2)).trans h2
  replace h3 := (HB.out.cell (World.block_lt_of_cell? w _ h3)).trans h3
  replace h4 := (HB.out.cell (World.block_lt_of_cell? w _ h4)).trans h4
  have HD := Aside0.mk hd
  clear hd h5 h6 he
  have hbb : w.heap.size < wr.heap.size := hb
  have put : ∀ S', S' = S ∨ S' = tr e :: S → twiceFrom S' ((k + 1 : Nat) : Int) (l0.drop (k + 1)) = twiceFrom [] 0 l0 → ∀ w2, HasSet w2 w.heap.size (k + 1) S' → Below w.heap.size w w2 → w.heap.size < w2.heap.size → TwRel l0 (twiceFrom [] 0 l0) w.heap.size w (.int .i64 ((k : Int) + 1)) w2 :=
   fun S' _ h w2 hs2 hb2 hl2 => ⟨k + 1, S', by omega, by go_num, hs2, hb2, hl2, h⟩
  have PUT := Aside0.mk put
  clear put
  by_cases hk1 : e.f0 = 1 ∨ e.f0 = 3
  rotate_left
  ·-- something else
   have b1 : (e.f0 != 1) = true := bne_iff_ne.mpr (by omega)
   have b3 : (e.f0 != 3) = true := bne_iff_ne.mpr (by omega)
   have hres : twiceFrom S ((k + 1 : Nat) : Int) (l0.drop (k + 1)) = twiceFrom [] 0 l0 := by
    rw [← HRR.out, HD.out]
    simp only [twiceFrom]
    rw [if_pos (by omega)]
    rfl
   have HRES := Aside0.mk hres
   clear hres hk1
   go_wp2
   go_roundw
   case rel => exact PUT.out _ (.inl rfl) HRES.out _ (((HS.out.alloc _).alloc _).mono (Nat.le_succ _)) ((HB.out.alloc (by omega) _).alloc (by simp; omega) _) (by simp; omega)
   case measure => simp [intOf]; omega
  -- a vote, or a win
  have hnk : ¬ (e.f0 ≠ 1 ∧ e.f0 ≠ 3) := by omega
  by_cases hc : S.contains (tr e) = true
  ·have hres : twiceFrom [] 0 l0 = (k : Int) := by
    rw [← HRR.out, HD.out]
    simp only [twiceFrom]
    rw [if_neg hnk, if_pos hc]
   have HRES := Aside0.mk hres
   have HC := Aside0.mk hc
   clear hres hnk hc
   rcases hk1 with hk1 | hk1
   ·have b1 : (e.f0 != 1) = false := bne_eq_false_iff_eq.mpr hk1
    have b2 : (e.f0 == 1) = true := beq_iff_eq.mpr hk1
    clear hk1
    go_wp2_with (first | (at_lookup; refine lookup_set _ rfl _ _ rfl w.heap.size k S rfl ((HS.out.alloc _).alloc _) (tr e) HE.out rfl true HC.out ?_))
    go_ret
    exact ⟨by rw [HRES.out]; rfl, (HB.out.alloc (by omega) _).alloc (by simp; omega) _⟩
   ·have b1 : (e.f0 != 1) = true := bne_iff_ne.mpr (by omega)
    have b3 : (e.f0 != 3) = false := bne_eq_false_iff_eq.mpr hk1
    clear hk1
    go_wp2_with (first | (at_lookup; refine lookup_set _ rfl _ _ rfl w.heap.size k S rfl ((HS.out.alloc _).alloc _) (tr e) HE.out rfl true HC.out ?_))
    go_ret
    exact ⟨by rw [HRES.out]; rfl, (HB.out.alloc (by omega) _).alloc (by simp; omega) _⟩
  replace hc : S.contains (tr e) = false := by simpa using hc
  have hres : twiceFrom (tr e :: S) ((k + 1 : Nat) : Int) (l0.drop (k + 1)) = twiceFrom [] 0 l0 := by
   rw [← HRR.out, HD.out]
   simp only [twiceFrom]
   rw [if_neg hnk, if_neg (by rw [hc]; decide)]
   rfl
  have HRES := Aside0.mk hres
  have HC := Aside0.mk hc
  clear hres hnk hc
  rcases hk1 with hk1 | hk1
  ·have b1 : (e.f0 != 1) = false := bne_eq_false_iff_eq.mpr hk1
   clear hk1
   go_wp2_with (first | (at_lookup; refine lookup_set _ rfl _ _ rfl w.heap.size k S rfl ((HS.out.alloc _).alloc _) (tr e) HE.out rfl false HC.out ?_) | (at_mapUpdate; refine store_set _ rfl _ _ _ rfl w.heap.size k S rfl ((HS.out.alloc _).alloc _) (by unfold maxLen; omega) (tr e) HE.out rfl rfl ?_; intro w1 hS1 hg1; have G1 := Aside0.mk hg1; have S1 := Aside0.mk hS1; clear hg1 hS1))
   go_roundw
   case rel => exact PUT.out _ (.inr rfl) HRES.out _ S1.out (((HB.out.alloc (by omega) _).alloc (by simp; omega) _).grown G1.out (by simp; omega) (fun j hj => by cases hj; exact Nat.le_refl _)) (by have := G1.out.size; simp at this; omega)
   case measure => simp [intOf]; omega
  ·have b1 : (e.f0 != 1) = true := bne_iff_ne.mpr (by omega)
   have b3 : (e.f0 != 3) = false := bne_eq_false_iff_eq.mpr hk1
   clear hk1
   go_wp2_with (first | (at_lookup; refine lookup_set _ rfl _ _ rfl w.heap.size k S rfl ((HS.out.alloc _).alloc _) (tr e) HE.out rfl false HC.out ?_) | (at_mapUpdate; refine store_set _ rfl _ _ _ rfl w.heap.size k S rfl ((HS.out.alloc _).alloc _) (by unfold maxLen; omega) (tr e) HE.out rfl rfl ?_; intro w1 hS1 hg1; have G1 := Aside0.mk hg1; have S1 := Aside0.mk hS1; clear hg1 hS1))
   go_roundw
   case rel => exact PUT.out _ (.inr rfl) HRES.out _ S1.out (((HB.out.alloc (by omega) _).alloc (by simp; omega) _).grown G1.out (by simp; omega) (fun j hj => by cases hj; exact Nat.le_refl _)) (by have := G1.out.size; simp at this; omega)
   case measure => simp [intOf]; omega
theorem judge_Twice.calls (A0 : Option Addr) (c0 : Nat) (l0 : List S27) (r : Int) (w : World) (hr0 : Kd.C k27 w A0 l0.length l0) (hc0 : l0.length ≤ c0) (h : judge_Twice.f l0 = some r) :
  Calls Try.prog 10 #[.slice A0 l0.length c0] w fun e w' => e = .returned (.int .i64 r) ∧ Below w.heap.size w w' := by
 unfold judge_Twice.f at h
 split at h
 ·obtain rfl := Option.some.inj h
  exact twice_walk A0 c0 l0 w hr0 (by assumption)
 ·cases h

-- NOT PRINTED: function 24 (claims_Table_24)

-- NOT PRINTED: function 22 (claims_Table_22)

-- NOT PRINTED: function 14 (judge_Agreed)

-- NOT PRINTED: function 15 (judge_Claimants)
/-! ### grapevinelaw21_anchor: function 8 -/
/-! Rows of noughts: tables that nobody has claimed. -/
def z64 : List Value := List.replicate 64 (.int .i64 0)
def z128 : List Value := List.replicate 128 (.int .i64 0)
theorem z64_at (j : Nat) (v : Value) (h : z64[j]? = some v) : j < 64 ∧ v = .int .i64 0 := by
 unfold z64 at h
 rw [List.getElem?_replicate] at h
 split at h
 ·exact ⟨by assumption, (Option.some.inj h).symm⟩
 ·cases h
theorem z128_at (j : Nat) (v : Value) (h : z128[j]? = some v) : j < 128 ∧ v = .int .i64 0 := by
 unfold z128 at h
 rw [List.getElem?_replicate] at h
 split at h
 ·exact ⟨by assumption, (Option.some.inj h).symm⟩
 ·cases h
theorem z128_get (j : Nat) (h : j < 128) : z128.toArray[j]? = some (.int .i64 0) := by
 rw [List.getElem?_toArray]
 unfold z128
 rw [List.getElem?_replicate, if_pos h]
theorem neq64 (w : World) : (binOp .neq 44 (.agg z64.toArray) (.agg z64.toArray)).run Try.prog w = .ok (.bool false) w := by kernel_rfl
def zeros (n : Nat) : Array Value := Array.replicate n (.int .i64 0)
theorem make2 (w : World) : (Instr.makeSlice 34 (.int .i64 2) (.int .i64 2)).run Try.prog w = .ok (.slice (some ⟨w.heap.size, 0, none⟩) 2 2) (w.alloc (.cells (zeros 256) 46)) := by kernel_rfl
theorem make1 (w : World) : (Instr.makeSlice 34 (.int .i64 1) (.int .i64 1)).run Try.prog w = .ok (.slice (some ⟨w.heap.size, 0, none⟩) 1 1) (w.alloc (.cells (zeros 128) 46)) := by kernel_rfl
theorem zeros_cell {w : World} {g n t : Nat} (h : w.heap[g]? = some (.cells (zeros n) t (0, 0))) (j : Nat) (hj : j < n) : w.cell? ⟨g, j, none⟩ = some (.int .i64 0) := by
 rw [blk_cell h j]
 unfold zeros
 rw [Array.getElem?_replicate, if_pos hj]
/-- Cells that lie one behind the other are loaded as one value. -/
theorem run_load_list {P : Program} (w : World) (A : Addr) (ty : TypeId) (vs : List Value) (d : TypeDesc) (hc : ∀ j v, vs[j]? = some v → w.cell? (A.add j) = some v)
  (hu : P.underlying ty = some d) (hd : (match d with | .struct _ | .array _ _ => true | _ => false) = true) (hi : (P.info? ty).map (·.size) = some vs.length) : (loadVar ty A).run P w = .ok (.agg vs.toArray) w := by
 have hl : (loadCells A vs.length).run P w = .ok vs.toArray w := run_loadCells_list (P := P) w A vs hc
 cases hq : P.info? ty with
 | none => simp [hq] at hi
 | some i =>
  have hs : i.size = vs.length := by simpa [hq] using hi
  have hagg : (isAgg ty).run P w = .ok true w := by
   unfold isAgg
   rw [Sem.run_bind, run_underlying hu w]
   cases d <;> simp_all
  simp [loadVar, Sem.run_bind, hagg, sizeOf, typeInfo, hq, hs, hl]
theorem load_list {P : Program} {ops : Array Oper} {rest : List Oper} {o : Oper} {a : Act} {w : World} {Q : Exit → Act → World → Prop} (hgd : o.guard = none) (ty : TypeId) (x : Operand) (ho : o.op = .load ty x)
  (A : Addr) (hx : a.eval x = .pointer (some A)) (vs : List Value) (d : TypeDesc) (hc : ∀ j v, vs[j]? = some v → w.cell? (A.add j) = some v)
  (hu : P.underlying ty = some d) (hd : (match d with | .struct _ | .array _ _ => true | _ => false) = true) (hi : (P.info? ty).map (·.size) = some vs.length)
  (h : wpList P ops Q rest (a.put o.dst (.agg vs.toArray)) w) : wpList P ops Q (o :: rest) a w :=
 wpList_plain hgd fun _ hK => by
  unfold Oper.wp execOp
  simp only [ho, hx, Instr.loadAt, Instr.sureAddr, Sem.run_bind, Sem.run_pure, Result.andThen_ok, run_load_list w A ty vs d hc hu hd hi]
  exact hK _ _ h
theorem quiet_load_list {P : Program} {ops : Array Oper} {C : World → Prop} {Q : Act → Prop} {a : Act} {o : Oper} {rest : List Oper} (hgd : o.guard = none) (ty : TypeId) (x : Operand) (ho : o.op = .load ty x)
  (A : Addr) (hx : a.eval x = .pointer (some A)) (vs : List Value) (d : TypeDesc) (hc : ∀ W, C W → ∀ j v, vs[j]? = some v → W.cell? (A.add j) = some v)
  (hu : P.underlying ty = some d) (hd : (match d with | .struct _ | .array _ _ => true | _ => false) = true) (hi : (P.info? ty).map (·.size) = some vs.length)
  (h : wpQuiet P ops C Q rest (a.put o.dst (.agg vs.toArray))) : wpQuiet P ops C Q (o :: rest) a :=
 wpQuiet_step fun K hK => by
  rw [if_pos (by simp [Region.wanted, hgd])]
  refine ⟨_, fun w hC => ?_, hK _ h⟩
  unfold Oper.quietAt execOp
  simp only [ho, hx, Instr.loadAt, Instr.sureAddr, Sem.run_bind, Sem.run_pure, Result.andThen_ok, run_load_list w A ty vs d (hc w hC) hu hd hi]
  exact ⟨rfl, rfl⟩
theorem add_off (g o j : Nat) : (⟨g, o, none⟩ : Addr).add j = ⟨g, o + j, none⟩ := by unfold Addr.add; split <;> simp_all
set_option maxRecDepth 100000 in
/-- The closure: are a table's owners others than the first one's? -/
theorem unlike (B g : Nat) (w : World) (hB : w.cell? ⟨B, 0, none⟩ = some (.slice (some ⟨g, 0, none⟩) 2 2)) (hg : w.heap[g]? = some (.cells (zeros 256) 46 (0, 0))) :
  Calls Try.prog 23 #[.agg z128.toArray, .pointer (some ⟨B, 0, none⟩)] w fun e w' => e = .returned (.bool false) ∧ Below w.heap.size w w' := by
 have hBl := World.block_lt_of_cell? w _ hB
 have HG := Aside0.mk hg
 clear hg
 go_enter Try.func23, Try.ntmps23
 go_wp2_with fail
 have HN := Aside0.mk (blk_new w (.cells z128.toArray 46))
 have HG2 := Aside0.mk (blk_alloc HG.out (.cells z128.toArray 46))
 have hB2 : (w.alloc (.cells z128.toArray 46)).cell? ⟨B, 0, none⟩ = some (.slice (some ⟨g, 0, none⟩) 2 2) := ((below_alloc (Below.refl w.heap.size w) _).cell hBl).trans hB
 obtain ⟨W, hW⟩ : ∃ W, w.alloc (.cells z128.toArray 46) = W := ⟨_, rfl⟩
 have HBL := Aside0.mk (below_alloc (Below.refl w.heap.size w) (.cells z128.toArray 46))
 rw [hW] at HN HG2 hB2 HBL ⊢
 clear hW hB
 refine wp_region_quiet_lit (by kernel_rfl) (by kernel_rfl) ?_
 quiet_step (fail)
 refine quiet_load_list rfl 44 _ rfl ⟨w.heap.size, 0, none⟩ rfl z64 _ ?_ Try.underlying44 rfl (by kernel_rfl) ?_
 ·rintro _ ⟨n, rfl⟩ j v hv
  obtain ⟨hj, rfl⟩ := z64_at j v hv
  rw [add_off, Nat.zero_add]
  exact (blk_cell HN.out j).trans (z128_get j (by omega))
 quiet_step (fail)
 quiet_step (fail)
 quiet_step (fail)
 refine quiet_load_list rfl 44 _ rfl ⟨g, 0, none⟩ rfl z64 _ ?_ Try.underlying44 rfl (by kernel_rfl) ?_
 ·rintro _ ⟨n, rfl⟩ j v hv
  obtain ⟨hj, rfl⟩ := z64_at j v hv
  rw [add_off, Nat.zero_add]
  exact zeros_cell (w := W.drewN n) HG2.out j (by omega)
 have q := fun w => neq64 w
 quiet_step (fail)
 quiet_step (fail)
 refine wpQuiet_nil ?_
 intro _ hw'
 obtain ⟨nq, hw''⟩ := hw'
 subst hw''
 go_wp2
 go_ret
 exact ⟨rfl, pw_below_drewN HBL.out nq⟩
def fnv (B : Nat) : Value := .func (.func 23) #[] #[.pointer (some ⟨B, 0, none⟩)]
def IxRel (w0 : World) (i : Value) (wr : World) : Prop := ∃ k : Nat, k ≤ 2 ∧ i = .int .i64 k ∧ Below w0.heap.size w0 wr
set_option maxRecDepth 100000 in
set_option maxHeartbeats 1000000 in
theorem index_none (B g : Nat) (w : World) (hB : w.cell? ⟨B, 0, none⟩ = some (.slice (some ⟨g, 0, none⟩) 2 2)) (hg : w.heap[g]? = some (.cells (zeros 256) 46 (0, 0))) :
  Calls Try.prog 24 #[.slice (some ⟨g, 0, none⟩) 2 2, fnv B] w fun e w' => e = .returned (.int .i64 (-1)) ∧ Below w.heap.size w w' := by
 unfold fnv
 have HB0 := Aside0.mk hB
 have HG := Aside0.mk hg
 have hgl := blk_lt hg
 clear hg hB
 go_enter Try.func24, Try.ntmps24
 go_wp2
 go_loopw [8] (fun i wr => IxRel w i wr) (fun i _ => 2 - (intOf i).toNat)
 case atStart => exact ⟨0, by omega, rfl, Below.refl _ _⟩
 case round =>
  obtain ⟨k, hk, rfl, hb⟩ := hrel
  have HB := Aside0.mk hb
  clear hb
  by_cases hlt : k < 2
  rotate_left
  ·go_wp2
   go_ret
   exact ⟨rfl, HB.out⟩
  have HGR := Aside0.mk (blk_below HG.out HB.out)
  have HBR := Aside0.mk (pw_cell_below HB.out HB0.out)
  have hbnd : k * 128 + 128 ≤ 256 := by omega
  go_wp2_with (first | (refine load_list rfl 46 _ rfl ⟨g, k * 128, none⟩ rfl z128 _ ?_ Try.underlying46 rfl (by kernel_rfl) ?_; (intro j v hv; obtain ⟨hj, rfl⟩ := z128_at j v hv; rw [add_off]; exact zeros_cell HGR.out _ (by omega))) | (go_at_call 23; go_loud (refine (unlike B g _ HBR.out HGR.out).mono ?_; rintro e w1 ⟨rfl, hb1⟩; have HB1 := Aside0.mk (below_step HB.out hb1); clear hb1)))
  go_roundw
  case rel => exact ⟨k + 1, by omega, by go_num, HB1.out⟩
  case measure => simp [intOf]; omega
set_option maxRecDepth 100000 in
theorem contains_none (B g : Nat) (w : World) (hB : w.cell? ⟨B, 0, none⟩ = some (.slice (some ⟨g, 0, none⟩) 2 2)) (hg : w.heap[g]? = some (.cells (zeros 256) 46 (0, 0))) :
  Calls Try.prog 22 #[.slice (some ⟨g, 0, none⟩) 2 2, fnv B] w fun e w' => e = .returned (.bool false) ∧ Below w.heap.size w w' := by
 have HB0 := Aside0.mk hB
 have HG := Aside0.mk hg
 clear hg hB
 go_enter Try.func22, Try.ntmps22
 go_wp2_with (go_at_call 24; go_loud (refine (index_none B g _ HB0.out HG.out).mono ?_; rintro e w1 ⟨rfl, hb1⟩; have HB1 := Aside0.mk hb1; clear hb1))
 go_ret
 exact ⟨rfl, HB1.out⟩
set_option maxRecDepth 100000 in
theorem agreed_zero (g : Nat) (w : World) (hg : w.heap[g]? = some (.cells (zeros 256) 46 (0, 0))) :
  Calls Try.prog 14 #[.slice (some ⟨g, 0, none⟩) 2 2] w fun e w' => e = .returned (.bool true) ∧ Below w.heap.size w w' := by
 have hmf : ∀ (fn : Fn) (first cap : Array Value) (w : World), (Instr.makeFunc fn first cap).run Try.prog w = .ok (.func fn first cap) w := fun _ _ _ _ => rfl
 have HG := Aside0.mk hg
 clear hg
 go_enter Try.func14, Try.ntmps14
 go_wp2_with (go_at_call 22; go_loud (refine (contains_none w.heap.size g _ (by simp) (blk_alloc HG.out _)).mono ?_; rintro e w1 ⟨rfl, hb1⟩; have HB1 := Aside0.mk (below_step (below_alloc (Below.refl _ w) _) hb1); clear hb1))
 go_ret
 exact ⟨rfl, HB1.out⟩
set_option maxRecDepth 100000 in
set_option maxHeartbeats 1000000 in
theorem claimants_zero (g b : Nat) (w : World) (hg : w.heap[g]? = some (.cells (zeros 128) 46 (0, 0))) (hb : w.cell? ⟨b, 0, none⟩ = some (.int .i64 1)) :
  Calls Try.prog 15 #[.slice (some ⟨b, 0, none⟩) 1 1, .slice (some ⟨g, 0, none⟩) 1 1, .int .i64 0] w fun e w' => e = .returned (.slice none 0 0) ∧ Below w.heap.size w w' := by
 have h0 := zeros_cell hg 0 (by omega)
 go_enter Try.func15, Try.ntmps15
 go_wp2
 go_loopw [7, 14] (fun v i wr => v = .slice none 0 0 ∧ IxRel w i wr) (fun _ i _ => 2 - (intOf i).toNat)
 case atStart => exact ⟨rfl, 0, by omega, rfl, Below.refl _ _⟩
 case round =>
  obtain ⟨rfl, k, hk, rfl, hbw⟩ := hrel
  by_cases hlt : k < 1
  rotate_left
  ·go_wp2
   go_ret
   exact ⟨rfl, hbw⟩
  obtain rfl : k = 0 := by omega
  have h1 := pw_cell_below hbw h0
  have h2 := pw_cell_below hbw hb
  have HB := Aside0.mk hbw
  clear hbw h0 hb
  go_wp2
  go_quiet (fail)
  go_wp2
  go_roundw
  case rel => exact ⟨rfl, 1, by omega, rfl, pw_below_drewN HB.out nq⟩
  case measure => simp [intOf]
/-! The anchor's own two events. -/
def ev1 : S27 := ⟨1, 5, 7, 3, []⟩
def ev2 : S27 := ⟨1, 5, 8, 3, []⟩
abbrev evCells : Array Value := #[.int .i64 1, .int .i64 5, .int .i64 7, .int .i64 3, .slice none 0 0, .int .i64 1, .int .i64 5, .int .i64 8, .int .i64 3, .slice none 0 0]
theorem nil_row (w : World) : (Kd.int .i64).C w none 0 [] := ⟨rfl, by omega, fun h => absurd h (by omega)⟩
theorem ev_row {w : World} {g : Nat} (h : w.heap[g]? = some (.cells evCells 27 (0, 0))) (l : List S27) (hl : l = [ev1, ev2] ∨ l = [ev1]) : Kd.C k27 w (some ⟨g, 0, none⟩) l.length l := by
 have c : ∀ j v, evCells[j]? = some v → w.cell? ⟨g, j, none⟩ = some v := fun j v hv => (blk_cell h j).trans hv
 have K1 : k27.K w ev1 [.int .i64 1, .int .i64 5, .int .i64 7, .int .i64 3, .slice none 0 0] := k27_mk w ev1 (c4 := 0) (by simp [ev1]) (nil_row w)
 have K2 : k27.K w ev2 [.int .i64 1, .int .i64 5, .int .i64 8, .int .i64 3, .slice none 0 0] := k27_mk w ev2 (c4 := 0) (by simp [ev2]) (nil_row w)
 have f1 : ∀ i u, ([.int .i64 1, .int .i64 5, .int .i64 7, .int .i64 3, .slice none 0 0] : List Value)[i]? = some u → w.cell? ((⟨g, 0, none⟩ : Addr).add (0 * 5 + i)) = some u := by
  intro i u hu
  rw [add_off, Nat.zero_add, Nat.zero_mul, Nat.zero_add]
  refine c i u ?_
  match i, hu with
  | 0, hu | 1, hu | 2, hu | 3, hu | 4, hu => exact hu
  | n + 5, hu => simp at hu
 have f2 : ∀ i u, ([.int .i64 1, .int .i64 5, .int .i64 8, .int .i64 3, .slice none 0 0] : List Value)[i]? = some u → w.cell? ((⟨g, 0, none⟩ : Addr).add (1 * 5 + i)) = some u := by
  intro i u hu
  rw [add_off, Nat.zero_add, Nat.one_mul]
  refine c (5 + i) u ?_
  match i, hu with
  | 0, hu | 1, hu | 2, hu | 3, hu | 4, hu => exact hu
  | n + 5, hu => simp at hu
 refine ⟨rfl, by rcases hl with rfl | rfl <;> decide, fun _ => ⟨_, rfl, fun j p hp => ?_⟩⟩
 match j with
 | 0 =>
  obtain rfl : p = ev1 := by rcases hl with rfl | rfl <;> exact (Option.some.inj hp).symm
  exact ⟨_, rfl, K1, f1⟩
 | 1 =>
  obtain rfl : p = ev2 := by
   rcases hl with rfl | rfl
   ·exact (Option.some.inj hp).symm
   ·cases hp
  exact ⟨_, rfl, K2, f2⟩
 | n + 2 => rcases hl with rfl | rfl <;> simp at hp
def grapevinelaw21_anchor.f : Option Bool := some true
theorem twice_both : judge_Twice.f [ev1, ev2] = some 1 := by decide +kernel
theorem twice_one : judge_Twice.f [ev1] = some (-1) := by decide +kernel
set_option maxRecDepth 100000 in
set_option maxHeartbeats 2000000 in
theorem anchor_walk (w : World) : Calls Try.prog 8 #[] w fun e w' => e = .returned (.bool true) ∧ Below w.heap.size w w' := by
 have mk2 := fun w => make2 w
 have mk1 := fun w => make1 w
 go_enter Try.func8, Try.ntmps8
 have T1 := fun (W : World) (h : W.heap[w.heap.size]? = some (.cells evCells 27 (0, 0))) => (show Calls Try.prog 10 #[.slice (some ⟨w.heap.size, 0, none⟩) 2 2] W fun e w' => e = .returned (.int .i64 1) ∧ Below W.heap.size W w' from judge_Twice.calls (some ⟨w.heap.size, 0, none⟩) 2 [ev1, ev2] 1 W (ev_row h _ (.inl rfl)) (Nat.le_refl _) twice_both)
 have T2 := fun (W : World) (h : W.heap[w.heap.size]? = some (.cells evCells 27 (0, 0))) => (show Calls Try.prog 10 #[.slice (some ⟨w.heap.size, 0, none⟩) 1 2] W fun e w' => e = .returned (.int .i64 (-1)) ∧ Below W.heap.size W w' from judge_Twice.calls (some ⟨w.heap.size, 0, none⟩) 2 [ev1] (-1) W (ev_row h _ (.inr rfl)) (by decide) twice_one)
 have T1' := Aside0.mk T1
 have T2' := Aside0.mk T2
 clear T1 T2
 go_wp2_with (first | (go_at_call 10; with_reducible refine (T1'.out _ (blk_new w _)).mono ?_; rintro e w1 ⟨rfl, hb1⟩; have H1 := Aside0.mk (blk_below (blk_new w _) hb1); have HB1 := Aside0.mk (below_step (below_alloc (Below.refl _ w) _) hb1); clear hb1) | (go_at_call 10; with_reducible refine (T2'.out _ H1.out).mono ?_; rintro e w2 ⟨rfl, hb2⟩; have H2 := Aside0.mk (blk_below H1.out hb2); have HB2 := Aside0.mk (below_step HB1.out hb2); clear hb2) | (go_at_call 14; go_loud (refine (agreed_zero w2.heap.size _ (blk_new w2 _)).mono ?_; rintro e w3 ⟨rfl, hb3⟩; have HB3 := Aside0.mk (below_step (below_alloc HB2.out _) hb3); clear hb3)) | (go_at_call 15; go_loud (refine (claimants_zero (w3.heap.size + 1) w3.heap.size _ (heap_alloc2_new w3 _ _) ((blk_cell (heap_alloc2_old w3 (.cells #[.int .i64 1] 3) _) 0).trans rfl)).mono ?_; rintro e w4 ⟨rfl, hb4⟩; have HB4 := Aside0.mk (below_step (below_alloc (below_alloc HB3.out _) _) hb4); clear hb4)))
 go_ret
 exact ⟨rfl, HB4.out⟩
theorem grapevinelaw21_anchor.calls (r : Bool) (w : World) (h : grapevinelaw21_anchor.f = some r) :
  Calls Try.prog 8 #[] w fun e w' => e = .returned (.bool r) ∧ Below w.heap.size w w' := by
 obtain rfl : true = r := Option.some.inj h
 exact anchor_walk w
/-! ### grapevinelaw21_small: function 9 -/
def grapevinelaw21_small.l0 : Nat → List (S27) → List (S27) → Int → Int → Option (Bool)
 | 0, _, _, _, _ => none
 | k + 1, x0, x5, x6, x7 => if x7 < x6 then (if 0 ≤ x7 then (if x7 < (x5.length : Int) then (if (((rd_T27 x5 x7).f4).length : Int) > 30 then (some false) else (grapevinelaw21_small.l0 k x0 x5 x6 (wrap64 (x7 + 1)))) else (none)) else (none)) else (some (decide ((x0.length : Int) ≤ 60)))
def grapevinelaw21_small.f (k : Nat) (l0 : List (S27)) : Option (Bool) := grapevinelaw21_small.l0 k l0 l0 (l0.length : Int) 0
theorem grapevinelaw21_small.mono_l : ∀ k, (∀ y0 y1 y2 y3, LeO (grapevinelaw21_small.l0 k y0 y1 y2 y3) (grapevinelaw21_small.l0 (k + 1) y0 y1 y2 y3))
 | 0 => fun _ _ _ _ r h => by simp [grapevinelaw21_small.l0] at h
 | k + 1 => by
  have ih0 := grapevinelaw21_small.mono_l k
  ·intro y0 y1 y2 y3
   unfold grapevinelaw21_small.l0
   repeat' first
   | (with_reducible exact ih0 _ _ _ _)
   | (with_reducible exact LeO.refl _)
   | (with_reducible exact LeO.none _)
   | (with_reducible refine LeO.ite ?_ ?_)
   | (with_reducible refine LeO.bind ?_ (fun _ => ?_))
   | exact ih0 _ _ _ _
   | exact LeO.none _
   | refine LeO.ite ?_ ?_
   | refine LeO.bind ?_ (fun _ => ?_)
theorem grapevinelaw21_small.mono : ∀ a0 k, LeO (grapevinelaw21_small.f k a0) (grapevinelaw21_small.f (k + 1) a0) := by
 intro a0 k
 have ih0 := grapevinelaw21_small.mono_l k
 unfold grapevinelaw21_small.f
 repeat' first
   | (with_reducible exact ih0 _ _ _ _)
   | (with_reducible exact LeO.refl _)
   | (with_reducible exact LeO.none _)
   | (with_reducible refine LeO.ite ?_ ?_)
   | (with_reducible refine LeO.bind ?_ (fun _ => ?_))
   | exact ih0 _ _ _ _
   | exact LeO.none _
   | refine LeO.ite ?_ ?_
   | refine LeO.bind ?_ (fun _ => ?_)
set_option maxHeartbeats 8000000 in
set_option maxRecDepth 100000 in
theorem grapevinelaw21_small.calls (k : Nat) (A0 : Option Addr) (c0 : Nat) (l0 : List (S27)) (r : Bool) (w : World) (hr0 : Kd.C k27 w A0 l0.length l0) (hc0 : l0.length ≤ c0) (h : grapevinelaw21_small.f k l0 = some r) :
  Calls Try.prog 9 #[.slice A0 l0.length c0] w fun e w' => e = .returned (.bool r) ∧ Below w.heap.size w w' := by
 have hu27 := Try.underlying27
 have HR0 := Aside0.mk hr0
 have HC0 := Aside0.mk hc0
 clear hr0 hc0
 have HB := Aside0.mk (Below.refl w.heap.size w)
 have H : (grapevinelaw21_small.l0 k l0 l0 (l0.length : Int) 0) = some r := h
 clear h
 have H' := Aside0.mk H
 clear H
 go_enter Try.func9, Try.ntmps9
 go_wp2
 go_loopg [7] k (fun kq v7 w' => ∃ (x7_1 : Int), v7 = .int .i64 x7_1 ∧ Aside0 (grapevinelaw21_small.l0 kq l0 l0 (l0.length : Int) x7_1 = some r) ∧ Aside0 (kq ≤ k) ∧ Aside0 (Below w.heap.size w w'))
 case atStart => exact ⟨(0), (by first | rfl | (simp; done) | (simp [*]; done)), H', ⟨Nat.le_refl _⟩, ⟨by repeat (first | (with_reducible first | exact HB.out | apply below_alloc | apply pw_below_drewN | apply below_drew1) | exact HB.out)⟩⟩
 case round =>
  clear H'
  obtain ⟨x7_1, rfl, HA, HK1, HB⟩ := hrel
  cases gk with
  | zero => exact absurd HA.out (by simp [grapevinelaw21_small.l0])
  | succ k1 =>
   have H := HA.out
   clear HA
   simp only [grapevinelaw21_small.l0] at H
   by_cases c2 : x7_1 < (l0.length : Int)
   rotate_left
   ·rw [if_neg c2] at H
    have c2b0 : decide (x7_1 < (l0.length : Int)) = false := decide_eq_false c2
    clear c2
    obtain rfl := Option.some.inj H
    go_wp2
    go_ret
    exact ⟨by first | rfl | (simp [errW_none, errW_some] <;> rfl) | (simp [*, errW_none, errW_some] <;> rfl), by repeat (first | (with_reducible first | exact HB.out | apply below_alloc | apply pw_below_drewN | apply below_drew1) | exact HB.out)⟩
   rw [if_pos c2] at H
   have c2b0 : decide (x7_1 < (l0.length : Int)) = true := decide_eq_true c2
   clear c2
   by_cases c3 : 0 ≤ x7_1
   rotate_left
   ·rw [if_neg c3] at H
    exact absurd H (by simp)
   rw [if_pos c3] at H
   have c3b0 : decide (0 ≤ x7_1) = true := decide_eq_true c3
   clear c3
   by_cases c4 : x7_1 < (l0.length : Int)
   rotate_left
   ·rw [if_neg c4] at H
    exact absurd H (by simp)
   rw [if_pos c4] at H
   have c4b0 : decide (x7_1 < (l0.length : Int)) = true := decide_eq_true c4
   clear c4
   by_cases c5 : (((rd_T27 l0 x7_1).f4).length : Int) > 30
   ·rw [if_pos c5] at H
    have c5b0 : decide (30 < (((rd_T27 l0 x7_1).f4).length : Int)) = true := decide_eq_true c5
    have c5b1 : decide (30 < ((rd_T27 l0 x7_1).f4).length) = true := decide_eq_true (by omega)
    clear c5
    obtain rfl := Option.some.inj H
    have p101 : 0 ≤ (x7_1 : Int) := of_decide_eq_true (by first | (with_reducible assumption) | assumption)
    have q101 : x7_1 < (l0.length : Int) := of_decide_eq_true (by first | (with_reducible assumption) | assumption)
    obtain ⟨ad101, A101_4, c101_4, e101, hx101_0, hx101_1, hx101_2, hx101_3, hx101_4, hl101_4, hi101_4⟩ := at_T27 HR0.out x7_1 p101 q101
    cases e101
    replace hx101_0 := (HB.out.cell (World.block_lt_of_cell? w _ hx101_0)).trans hx101_0
    replace hx101_1 := (HB.out.cell (World.block_lt_of_cell? w _ hx101_1)).trans hx101_1
    replace hx101_2 := (HB.out.cell (World.block_lt_of_cell? w _ hx101_2)).trans hx101_2
    replace hx101_3 := (HB.out.cell (World.block_lt_of_cell? w _ hx101_3)).trans hx101_3
    replace hx101_4 := (HB.out.cell (World.block_lt_of_cell? w _ hx101_4)).trans hx101_4
    have HR101_4 := Aside0.mk hi101_4
    have HC101_4 := Aside0.mk hl101_4
    clear hi101_4 hl101_4
    replace p101 := eq_true p101
    replace q101 := eq_true q101
    go_wp2_with (first | ((with_reducible refine gate_dst (N := 4) rfl ?_); refine box_event ?hg (N := 4) ?hd (cs := #[.int .i64 0, .int .i64 0, .int .i64 0, .int .i64 0, .slice none 0 0]) (t := 27) ?hr ?_; (case hd => rfl); (case hg => rfl); (case hr => first | (go_simp; done) | (go_simp; rfl)); intro gb102 hg w6 hbox hb; have n0_ := Aside0.mk (below_step (by repeat (first | (with_reducible first | exact HB.out | apply below_alloc | apply pw_below_drewN | apply below_drew1) | exact HB.out)) hb); have n1_ := Aside0.mk (hbox); have n2_ := Aside0.mk ((by rw [hg]; exact (below_size (by repeat (first | (with_reducible first | exact HB.out | apply below_alloc | apply pw_below_drewN | apply below_drew1) | exact HB.out))) : w.heap.size ≤ gb102)); have n3_ := Aside0.mk ((by rw [hg]; exact (below_size (by repeat (first | (with_reducible first | exact HB.out | apply below_alloc | apply pw_below_drewN | apply below_drew1) | exact HB.out))) : w.heap.size ≤ gb102)); clear HB; have HB := n0_; have BK102 := n1_; have GW102 := n2_; have GE102 := n3_; clear n0_ n1_ n2_ n3_; clear hb hbox hg; have hcz7_0 : w6.cell? ⟨gb102, 0, none⟩ = some (.int .i64 0) := (blk_cell BK102.out 0).trans rfl; have hcz7_1 : w6.cell? ⟨gb102, 1, none⟩ = some (.int .i64 0) := (blk_cell BK102.out 1).trans rfl; have hcz7_2 : w6.cell? ⟨gb102, 2, none⟩ = some (.int .i64 0) := (blk_cell BK102.out 2).trans rfl; have hcz7_3 : w6.cell? ⟨gb102, 3, none⟩ = some (.int .i64 0) := (blk_cell BK102.out 3).trans rfl; have hcz7_4 : w6.cell? ⟨gb102, 4, none⟩ = some (.slice none 0 0) := (blk_cell BK102.out 4).trans rfl; have hfz7_0 := blk_frozen BK102.out 0; have hfz7_1 := blk_frozen BK102.out 1; have hfz7_2 := blk_frozen BK102.out 2; have hfz7_3 := blk_frozen BK102.out 3; have hfz7_4 := blk_frozen BK102.out 4))
    go_ret
    exact ⟨by first | rfl | (simp [errW_none, errW_some] <;> rfl) | (simp [*, errW_none, errW_some] <;> rfl), by repeat (first | (with_reducible first | exact HB.out | apply below_alloc | apply pw_below_drewN | apply below_drew1 | refine below_set ?_ GE102.out) | exact HB.out)⟩
   rw [if_neg c5] at H
   have c5b0 : decide (30 < (((rd_T27 l0 x7_1).f4).length : Int)) = false := decide_eq_false c5
   have c5b1 : decide (30 < ((rd_T27 l0 x7_1).f4).length) = false := decide_eq_false (by omega)
   clear c5
   have H' := Aside0.mk H
   clear H
   have p101 : 0 ≤ (x7_1 : Int) := of_decide_eq_true (by first | (with_reducible assumption) | assumption)
   have q101 : x7_1 < (l0.length : Int) := of_decide_eq_true (by first | (with_reducible assumption) | assumption)
   obtain ⟨ad101, A101_4, c101_4, e101, hx101_0, hx101_1, hx101_2, hx101_3, hx101_4, hl101_4, hi101_4⟩ := at_T27 HR0.out x7_1 p101 q101
   cases e101
   replace hx101_0 := (HB.out.cell (World.block_lt_of_cell? w _ hx101_0)).trans hx101_0
   replace hx101_1 := (HB.out.cell (World.block_lt_of_cell? w _ hx101_1)).trans hx101_1
   replace hx101_2 := (HB.out.cell (World.block_lt_of_cell? w _ hx101_2)).trans hx101_2
   replace hx101_3 := (HB.out.cell (World.block_lt_of_cell? w _ hx101_3)).trans hx101_3
   replace hx101_4 := (HB.out.cell (World.block_lt_of_cell? w _ hx101_4)).trans hx101_4
   have HR101_4 := Aside0.mk hi101_4
   have HC101_4 := Aside0.mk hl101_4
   clear hi101_4 hl101_4
   replace p101 := eq_true p101
   replace q101 := eq_true q101
   go_wp2_with (first | ((with_reducible refine gate_dst (N := 4) rfl ?_); refine box_event ?hg (N := 4) ?hd (cs := #[.int .i64 0, .int .i64 0, .int .i64 0, .int .i64 0, .slice none 0 0]) (t := 27) ?hr ?_; (case hd => rfl); (case hg => rfl); (case hr => first | (go_simp; done) | (go_simp; rfl)); intro gb102 hg w8 hbox hb; have n0_ := Aside0.mk (below_step (by repeat (first | (with_reducible first | exact HB.out | apply below_alloc | apply pw_below_drewN | apply below_drew1) | exact HB.out)) hb); have n1_ := Aside0.mk (hbox); have n2_ := Aside0.mk ((by rw [hg]; exact (below_size (by repeat (first | (with_reducible first | exact HB.out | apply below_alloc | apply pw_below_drewN | apply below_drew1) | exact HB.out))) : w.heap.size ≤ gb102)); have n3_ := Aside0.mk ((by rw [hg]; exact (below_size (by repeat (first | (with_reducible first | exact HB.out | apply below_alloc | apply pw_below_drewN | apply below_drew1) | exact HB.out))) : w.heap.size ≤ gb102)); clear HB; have HB := n0_; have BK102 := n1_; have GW102 := n2_; have GE102 := n3_; clear n0_ n1_ n2_ n3_; clear hb hbox hg; have hcz9_0 : w8.cell? ⟨gb102, 0, none⟩ = some (.int .i64 0) := (blk_cell BK102.out 0).trans rfl; have hcz9_1 : w8.cell? ⟨gb102, 1, none⟩ = some (.int .i64 0) := (blk_cell BK102.out 1).trans rfl; have hcz9_2 : w8.cell? ⟨gb102, 2, none⟩ = some (.int .i64 0) := (blk_cell BK102.out 2).trans rfl; have hcz9_3 : w8.cell? ⟨gb102, 3, none⟩ = some (.int .i64 0) := (blk_cell BK102.out 3).trans rfl; have hcz9_4 : w8.cell? ⟨gb102, 4, none⟩ = some (.slice none 0 0) := (blk_cell BK102.out 4).trans rfl; have hfz9_0 := blk_frozen BK102.out 0; have hfz9_1 := blk_frozen BK102.out 1; have hfz9_2 := blk_frozen BK102.out 2; have hfz9_3 := blk_frozen BK102.out 3; have hfz9_4 := blk_frozen BK102.out 4))
   go_roundg k1
   case measure => have := HK1.out; omega
   case rel => exact ⟨(wrap64 (x7_1 + 1)), (by first | rfl | (simp; done) | (simp [*]; done)), H', ⟨by have := HK1.out; omega⟩, ⟨by repeat (first | (with_reducible first | exact HB.out | apply below_alloc | apply pw_below_drewN | apply below_drew1 | refine below_set ?_ GE102.out) | exact HB.out)⟩⟩

-- NOT PRINTED: function 19 (node_Event_19)

-- NOT PRINTED: function 16 (node_Event_16)
/-! ### judge_Unfounded: function 11 -/
/-- The first place at which p holds. -/
def idxFrom (p : S27 → Bool) (k : Int) : List S27 → Int
 | [] => -1
 | e :: l => if p e = true then k else idxFrom p (k + 1) l
def IdxRel (l : List S27) (p : S27 → Bool) (r : Int) (w0 : World) (i : Value) (wr : World) : Prop :=
 ∃ k : Nat, k ≤ l.length ∧ i = .int .i64 k ∧ Below w0.heap.size w0 wr ∧ idxFrom p k (l.drop k) = r
def evV (e : S27) (A4 : Option Addr) (c4 : Nat) : Value := .agg #[.int .i64 e.f0, .int .i64 e.f1, .int .i64 e.f2, .int .i64 e.f3, .slice A4 e.f4.length c4]

/-- The closure of Unfounded: did o give the vote that v is told to have given to e's one? -/
def gave (v : Int) (e o : S27) : Bool := o.f0 == 1 && (o.f1 == v && (o.f2 == e.f1 && o.f3 == e.f3))
set_option maxRecDepth 100000 in
set_option maxHeartbeats 1000000 in
theorem gave_at (Bv Be : Nat) (v : Int) (e o : S27) (A4 : Option Addr) (c4 : Nat) (w : World) (hv : w.cell? ⟨Bv, 0, none⟩ = some (.int .i64 v)) (h1 : w.cell? ⟨Be, 1, none⟩ = some (.int .i64 e.f1)) (h3 : w.cell? ⟨Be, 3, none⟩ = some (.int .i64 e.f3)) :
  Calls Try.prog 17 #[evV o A4 c4, .pointer (some ⟨Bv, 0, none⟩), .pointer (some ⟨Be, 0, none⟩)] w fun r w' => r = .returned (.bool (gave v e o)) ∧ Below w.heap.size w w' := by
 have l1 := World.block_lt_of_cell? w _ hv
 have l2 := World.block_lt_of_cell? w _ h1
 dsimp only at l1 l2
 unfold evV
 unfold gave
 cases k0 : (o.f0 == 1) with
 | false =>
  go_enter Try.func17, Try.ntmps17
  go_wp2
  go_ret
  exact ⟨rfl, (Below.refl _ _).alloc (Nat.le_refl _) _⟩
 | true =>
  cases k1 : (o.f1 == v) with
  | false =>
   go_enter Try.func17, Try.ntmps17
   go_wp2
   go_ret
   exact ⟨rfl, (Below.refl _ _).alloc (Nat.le_refl _) _⟩
  | true =>
   cases k2 : (o.f2 == e.f1) with
   | false =>
    go_enter Try.func17, Try.ntmps17
    go_wp2
    go_ret
    exact ⟨rfl, (Below.refl _ _).alloc (Nat.le_refl _) _⟩
   | true =>
    cases k3 : (o.f3 == e.f3) with
    | false =>
     go_enter Try.func17, Try.ntmps17
     go_wp2
     go_ret
     exact ⟨rfl, (Below.refl _ _).alloc (Nat.le_refl _) _⟩
    | true =>
     go_enter Try.func17, Try.ntmps17
     go_wp2
     go_ret
     exact ⟨rfl, (Below.refl _ _).alloc (Nat.le_refl _) _⟩

set_option maxRecDepth 100000 in
set_option maxHeartbeats 1000000 in
theorem index_at17 (Bv Be : Nat) (A0 : Option Addr) (c0 : Nat) (l0 : List S27) (p : S27 → Bool) (w : World) (hr0 : Kd.C k27 w A0 l0.length l0)
  (hp : ∀ e A4 c4 W, Below w.heap.size w W → e.f4.length ≤ c4 → (Kd.int .i64).C W A4 e.f4.length e.f4 → Calls Try.prog 17 #[evV e A4 c4, .pointer (some ⟨Bv, 0, none⟩), .pointer (some ⟨Be, 0, none⟩)] W fun r W' => r = .returned (.bool (p e)) ∧ Below W.heap.size W W') :
  Calls Try.prog 19 #[.slice A0 l0.length c0, .func (.func 17) #[] #[.pointer (some ⟨Bv, 0, none⟩), .pointer (some ⟨Be, 0, none⟩)]] w fun e w' => e = .returned (.int .i64 (idxFrom p 0 l0)) ∧ Below w.heap.size w w' := by
 have hlen := hr0.2.1
 have HR := Aside0.mk hr0
 have HP := Aside0.mk hp
 clear hr0 hp
 go_enter Try.func19, Try.ntmps19
 go_wp2
 go_loopw [8] (fun i wr => IdxRel l0 p (idxFrom p 0 l0) w i wr) (fun i _ => l0.length - (intOf i).toNat)
 case atStart => exact ⟨0, Nat.zero_le _, rfl, Below.refl _ _, rfl⟩
 case round =>
  obtain ⟨k, hk, rfl, hB, hr⟩ := hrel
  have HB := Aside0.mk hB
  have HRR := Aside0.mk hr
  clear hB hr
  by_cases hlt : k < l0.length
  rotate_left
  ·obtain rfl : k = l0.length := by omega
   have hres : idxFrom p 0 l0 = -1 := by
    rw [← HRR.out, List.drop_length]
    rfl
   have HRES := Aside0.mk hres
   clear hres
   go_wp2
   go_ret
   exact ⟨by rw [HRES.out]; rfl, HB.out⟩
  obtain ⟨ad, A4, c4, hA, h0, h1, h2, h3, h4, h5, h6⟩ := at_T27 HR.out (k : Int) (by omega) (by omega)
  have hd := drop_at l0 k hlt
  obtain ⟨e, he⟩ : ∃ e, rd_T27 l0 (k : Int) = e := ⟨_, rfl⟩
  rw [he] at h0 h1 h2 h3 h4 h5 h6 hd
  rw [Int.toNat_natCast] at h0 h1 h2 h3 h4
  subst hA
  replace h0 := (HB.out.cell (World.block_lt_of_cell? w _ h0)).trans h0
  replace h1 := (HB.out.cell (World.block_lt_of_cell? w _ h1)).trans h1
  replace h2 := (HB.out.cell (World.block_lt_of_cell? w _ h2)).trans h2
  replace h3 := (HB.out.cell (World.block_lt_of_cell? w _ h3)).trans h3
  replace h4 := (HB.out.cell (World.block_lt_of_cell? w _ h4)).trans h4
  have CC := Aside0.mk (HP.out e A4 c4 _ HB.out h5 (Kd.C_below h6 HB.out))
  have HD := Aside0.mk hd
  clear hd h5 h6 he
  cases hpe : p e with
  | true =>
   have hres : idxFrom p 0 l0 = (k : Int) := by
    rw [← HRR.out, HD.out]
    simp only [idxFrom]
    rw [if_pos hpe]
   have HRES := Aside0.mk hres
   clear hres
   rw [hpe] at CC
   clear hpe
   go_wp2_with (go_at_call 17; go_loud (refine CC.out.mono ?_; rintro e1 w1 ⟨rfl, hb1⟩; have HB1 := Aside0.mk (below_step HB.out hb1); clear hb1))
   go_ret
   exact ⟨by rw [HRES.out]; rfl, HB1.out⟩
  | false =>
   have hres : idxFrom p ((k + 1 : Nat) : Int) (l0.drop (k + 1)) = idxFrom p 0 l0 := by
    rw [← HRR.out, HD.out]
    simp only [idxFrom]
    rw [hpe, if_neg (by decide)]
    rfl
   have HRES := Aside0.mk hres
   clear hres
   rw [hpe] at CC
   clear hpe
   go_wp2_with (go_at_call 17; go_loud (refine CC.out.mono ?_; rintro e1 w1 ⟨rfl, hb1⟩; have HB1 := Aside0.mk (below_step HB.out hb1); clear hb1))
   go_roundw
   case rel => exact ⟨k + 1, by omega, by go_num, HB1.out, HRES.out⟩
   case measure => simp [intOf]; omega

set_option maxRecDepth 100000 in
theorem contains_at17 (Bv Be : Nat) (A0 : Option Addr) (c0 : Nat) (l0 : List S27) (p : S27 → Bool) (w : World) (hr0 : Kd.C k27 w A0 l0.length l0)
  (hp : ∀ e A4 c4 W, Below w.heap.size w W → e.f4.length ≤ c4 → (Kd.int .i64).C W A4 e.f4.length e.f4 → Calls Try.prog 17 #[evV e A4 c4, .pointer (some ⟨Bv, 0, none⟩), .pointer (some ⟨Be, 0, none⟩)] W fun r W' => r = .returned (.bool (p e)) ∧ Below W.heap.size W W') :
  Calls Try.prog 16 #[.slice A0 l0.length c0, .func (.func 17) #[] #[.pointer (some ⟨Bv, 0, none⟩), .pointer (some ⟨Be, 0, none⟩)]] w fun e w' => e = .returned (.bool (decide (0 ≤ idxFrom p 0 l0))) ∧ Below w.heap.size w w' := by
 have HC := Aside0.mk (index_at17 Bv Be A0 c0 l0 p w hr0 hp)
 clear hr0 hp
 obtain ⟨r, hr⟩ : ∃ r, idxFrom p 0 l0 = r := ⟨_, rfl⟩
 rw [hr] at HC ⊢
 clear hr
 go_enter Try.func16, Try.ntmps16
 go_wp2_with (go_at_call 19; go_loud (refine HC.out.mono ?_; rintro e1 w1 ⟨rfl, hb1⟩; have HB1 := Aside0.mk hb1; clear hb1))
 go_ret
 exact ⟨rfl, HB1.out⟩
set_option maxRecDepth 100000 in
theorem need_walk (n : Nat) (w : World) (hn : n ≤ 9223372036854775807) : Calls Try.prog 18 #[.int .i64 n] w fun e w' => e = .returned (.int .i64 ((n / 2 + 1 : Nat) : Int)) ∧ Below w.heap.size w w' := by
 have hm : (if (n : Int) < 0 then (0 : Int) else (n : Int)) = (n : Int) := if_neg (by omega)
 have h1 : ((n / 2 + 1 : Nat) : Int) = (n : Int) / 2 + 1 := by omega
 rw [h1]
 clear h1
 go_enter Try.func18, Try.ntmps18
 go_wp2
 go_ret
 exact ⟨rfl, Below.refl _ _⟩
theorem C_take {w : World} {A : Option Addr} {l : List S27} (h : Kd.C k27 w A l.length l) (k : Nat) (hk : k ≤ l.length) : Kd.C k27 w A (l.take k).length (l.take k) := by
 refine ⟨rfl, by have := h.2.1; simp; omega, fun hn => ?_⟩
 obtain ⟨ad, e, hc⟩ := h.2.2 (by simp at hn; omega)
 refine ⟨ad, e, fun j p hj => hc j p ?_⟩
 rw [List.getElem?_take] at hj
 split at hj
 ·exact hj
 ·cases hj
def given (e : S27) (pre : List S27) (vs : List Int) : Nat := (vs.filter fun v => decide (0 ≤ idxFrom (gave v e) 0 pre)).length
def unfAt (l : List S27) (k : Nat) : Bool := (rd_T27 l (k : Int)).f0 == 3 && decide (given (rd_T27 l (k : Int)) (l.take k) (rd_T27 l (k : Int)).f4 < (rd_T27 l (k : Int)).f4.length / 2 + 1)
def unfFrom (l : List S27) : Nat → Nat → Int
 | 0, _ => -1
 | d + 1, k => if unfAt l k = true then (k : Int) else unfFrom l d (k + 1)
def judge_Unfounded.f (l0 : List S27) : Option Int := some (unfFrom l0 l0.length 0)
def UfRel (l : List S27) (r : Int) (w0 : World) (i : Value) (wr : World) : Prop :=
 ∃ (k d : Nat), k + d = l.length ∧ i = .int .i64 k ∧ Below w0.heap.size w0 wr ∧ unfFrom l d k = r
def UfIn (e : S27) (pre : List S27) (Be : Nat) (cs : Array Value) (w0 : World) (n i : Value) (wr : World) : Prop :=
 ∃ m : Nat, m ≤ e.f4.length ∧ i = .int .i64 m ∧ n = .int .i64 (given e pre (e.f4.take m)) ∧ Below w0.heap.size w0 wr ∧ wr.heap[Be]? = some (.cells cs 27 (0, 0))
theorem given_snoc (e : S27) (pre : List S27) (m : Nat) (h : m < e.f4.length) : given e pre (e.f4.take (m + 1)) = given e pre (e.f4.take m) + if decide (0 ≤ idxFrom (gave (rd e.f4 (m : Int)) e) 0 pre) = true then 1 else 0 := by
 have hr : rd e.f4 (m : Int) = e.f4[m] := by unfold rd; rw [List.getD_eq_getElem?_getD, Int.toNat_natCast, List.getElem?_eq_getElem h]; rfl
 rw [hr]
 unfold given
 rw [List.take_succ_eq_append_getElem h, List.filter_append, List.length_append]
 congr 1
 by_cases hc : decide (0 ≤ idxFrom (gave e.f4[m] e) 0 pre) = true
 ·simp [hc]
 simp only [List.filter_cons, hc, if_false, List.filter_nil, List.length_nil]
 simp
theorem given_le (e : S27) (pre : List S27) (vs : List Int) : given e pre vs ≤ vs.length := List.length_filter_le _ _
set_option maxRecDepth 100000 in
set_option maxHeartbeats 4000000 in
theorem unfounded_walk (A0 : Option Addr) (c0 : Nat) (l0 : List S27) (w : World) (hr0 : Kd.C k27 w A0 l0.length l0) (hc0 : l0.length ≤ c0) :
  Calls Try.prog 11 #[.slice A0 l0.length c0] w fun e w' => e = .returned (.int .i64 (unfFrom l0 l0.length 0)) ∧ Below w.heap.size w w' := by
 have hmf : ∀ (fn : Fn) (first cap : Array Value) (w : World), (Instr.makeFunc fn first cap).run Try.prog w = .ok (.func fn first cap) w := fun _ _ _ _ => rfl
 have hlen := hr0.2.1
 have HR := Aside0.mk hr0
 clear hr0
 go_enter Try.func11, Try.ntmps11
 go_wp2
 go_loopw [10] (fun i wr => UfRel l0 (unfFrom l0 l0.length 0) w i wr) (fun i _ => l0.length - (intOf i).toNat)
 case atStart => exact ⟨0, l0.length, by omega, rfl, Below.refl _ _, rfl⟩
 case round =>
  obtain ⟨k, d, hk, rfl, hB, hr⟩ := hrel
  have HB := Aside0.mk hB
  have HRR := Aside0.mk hr
  clear hB hr
  by_cases hlt : k < l0.length
  rotate_left
  ·obtain rfl : d = 0 := by omega
   have hres : unfFrom l0 l0.length 0 = -1 := by
    rw [← HRR.out]
    rfl
   have HRES := Aside0.mk hres
   clear hres
   go_wp2
   go_ret
   exact ⟨by rw [HRES.out]; rfl, HB.out⟩
  obtain ⟨d, rfl⟩ : ∃ d', d = d' + 1 := ⟨d - 1, by omega⟩
  obtain ⟨ad, A4, c4, hA, h0, h1, h2, h3, h4, h5, h6⟩ := at_T27 HR.out (k : Int) (by omega) (by omega)
  have hu : unfAt l0 k = ((rd_T27 l0 (k : Int)).f0 == 3 && decide (given (rd_T27 l0 (k : Int)) (l0.take k) (rd_T27 l0 (k : Int)).f4 < (rd_T27 l0 (k : Int)).f4.length / 2 + 1)) := rfl
  obtain ⟨e, he⟩ : ∃ e, rd_T27 l0 (k : Int) = e := ⟨_, rfl⟩
  rw [he] at h0 h1 h2 h3 h4 h5 h6 hu
  rw [Int.toNat_natCast] at h0 h1 h2 h3 h4
  subst hA
  replace h0 := (HB.out.cell (World.block_lt_of_cell? w _ h0)).trans h0
  replace h1 := (HB.out.cell (World.block_lt_of_cell? w _ h1)).trans h1
  replace h2 := (HB.out.cell (World.block_lt_of_cell? w _ h2)).trans h2
  replace h3 := (HB.out.cell (World.block_lt_of_cell? w _ h3)).trans h3
  replace h4 := (HB.out.cell (World.block_lt_of_cell? w _ h4)).trans h4
  have H6 := Aside0.mk h6
  have HU := Aside0.mk hu
  have H5 := Aside0.mk h5
  clear hu h5 h6 he
  have hn4 := H6.out.2.1
  cases hk3 : (e.f0 != 3) with
  | true =>
   have hres : unfFrom l0 d (k + 1) = unfFrom l0 l0.length 0 := by
    rw [← HRR.out]
    simp only [unfFrom]
    rw [HU.out, if_neg (by have := bne_iff_ne.mp hk3; simp [this])]
   have HRES := Aside0.mk hres
   clear hres
   go_wp2
   go_roundw
   case rel => exact ⟨k + 1, d, by omega, by go_num, HB.out.alloc HB.out.size _, HRES.out⟩
   case measure => simp [intOf]; omega
  | false =>
   have hk0 : (e.f0 == 3) = true := by have := bne_eq_false_iff_eq.mp hk3; rw [this]; decide
   obtain ⟨cs, hcs⟩ : ∃ cs : Array Value, cs = #[.int .i64 e.f0, .int .i64 e.f1, .int .i64 e.f2, .int .i64 e.f3, .slice A4 e.f4.length c4] := ⟨_, rfl⟩
   have hcsA := Aside0.mk hcs
   clear hcs
   have HK0 := Aside0.mk hk0
   clear hk0
   go_wp2
   obtain ⟨wo, hwo⟩ : ∃ wo, wo = wr := ⟨_, rfl⟩
   subst hwo
   have BN : Aside0 ((wo.alloc (.cells #[.int .i64 e.f0, .int .i64 e.f1, .int .i64 e.f2, .int .i64 e.f3, .slice A4 e.f4.length c4] 27)).heap[wo.heap.size]? = some (.cells cs 27 (0, 0))) := Aside0.mk (by rw [hcsA.out]; exact blk_new wo _)
   have HBN := Aside0.mk (below_step HB.out (below_alloc (Below.refl _ wo) (.cells #[.int .i64 e.f0, .int .i64 e.f1, .int .i64 e.f2, .int .i64 e.f3, .slice A4 e.f4.length c4] 27)))
   go_loopw [5, 21] (fun n i wi => UfIn e (l0.take k) wo.heap.size cs w n i wi) (fun _ i _ => e.f4.length - (intOf i).toNat)
   case atStart => exact ⟨0, Nat.zero_le _, rfl, rfl, HBN.out, BN.out⟩
   case round =>
    obtain ⟨m, hm, rfl, rfl, hBi, hBe⟩ := hrel
    have HBi := Aside0.mk hBi
    have HBe := Aside0.mk hBe
    clear hBi hBe
    have hle := given_le e (l0.take k) (e.f4.take m)
    have hle2 : given e (l0.take k) (e.f4.take m) ≤ m := Nat.le_trans hle (by rw [List.length_take]; omega)
    by_cases hmt : m < e.f4.length
    rotate_left
    ·obtain rfl : m = e.f4.length := by omega
     have hc4 : wr.cell? ⟨wo.heap.size, 4, none⟩ = some (.slice A4 e.f4.length c4) := by rw [blk_cell HBe.out 4, hcsA.out]; rfl
     rw [List.take_length] at hle ⊢
     clear hle2
     obtain ⟨g, hgv⟩ : ∃ g, given e (l0.take k) e.f4 = g := ⟨_, rfl⟩
     have hun : unfAt l0 k = decide (g < e.f4.length / 2 + 1) := by rw [HU.out, HK0.out, hgv]; rfl
     rw [hgv] at hle ⊢
     have HUN := Aside0.mk hun
     clear hun hgv
     by_cases hlt2 : g < e.f4.length / 2 + 1
     ·have hres : unfFrom l0 l0.length 0 = (k : Int) := by
       rw [← HRR.out]
       simp only [unfFrom]
       rw [HUN.out, if_pos (decide_eq_true hlt2)]
      have HRES := Aside0.mk hres
      clear hres
      go_wp2_with (go_at_call 18; go_loud (refine (need_walk e.f4.length _ (by omega)).mono ?_; rintro e1 w1 ⟨rfl, hb1⟩; have HB1 := Aside0.mk (below_step HBi.out hb1); clear hb1))
      go_ret
      exact ⟨by rw [HRES.out]; rfl, HB1.out⟩
     have hres : unfFrom l0 d (k + 1) = unfFrom l0 l0.length 0 := by
      rw [← HRR.out]
      simp only [unfFrom]
      rw [HUN.out, if_neg (by simpa using hlt2)]
     have HRES := Aside0.mk hres
     clear hres
     go_wp2_with (go_at_call 18; go_loud (refine (need_walk e.f4.length _ (by omega)).mono ?_; rintro e1 w1 ⟨rfl, hb1⟩; have HB1 := Aside0.mk (below_step HBi.out hb1); clear hb1))
     go_roundw
     case rel => exact ⟨k + 1, d, by omega, by go_num, HB1.out, HRES.out⟩
     case measure => simp [intOf]; omega
    obtain ⟨ad4, hA4, hx4⟩ := Kd.at_int H6.out (m : Int) (by omega) (by omega)
    have hsn := given_snoc e (l0.take k) m hmt
    obtain ⟨v, hv⟩ : ∃ v, rd e.f4 (m : Int) = v := ⟨_, rfl⟩
    rw [hv] at hx4 hsn
    rw [Int.toNat_natCast] at hx4
    subst hA4
    replace hx4 := (HBi.out.cell (World.block_lt_of_cell? w _ hx4)).trans hx4
    have HSN := Aside0.mk hsn
    clear hsn hv
    have hc5 : wr.cell? ⟨wo.heap.size, 1, none⟩ = some (.int .i64 e.f1) := by rw [blk_cell HBe.out 1, hcsA.out]; rfl
    have hc6 : wr.cell? ⟨wo.heap.size, 3, none⟩ = some (.int .i64 e.f3) := by rw [blk_cell HBe.out 3, hcsA.out]; rfl
    have CT := Aside0.mk (C_take HR.out k (by omega))
    have htl : (l0.take k).length = k := by simp; omega
    have GV : ∀ W1, Below wr.heap.size wr W1 → Kd.C k27 W1 (some ad) (l0.take k).length (l0.take k) → ∀ Bv, W1.cell? ⟨Bv, 0, none⟩ = some (.int .i64 v) → Calls Try.prog 16 #[.slice (some ad) k c0, .func (.func 17) #[] #[.pointer (some ⟨Bv, 0, none⟩), .pointer (some ⟨wo.heap.size, 0, none⟩)]] W1 fun e1 w' => e1 = .returned (.bool (decide (0 ≤ idxFrom (gave v e) 0 (l0.take k)))) ∧ Below W1.heap.size W1 w' := by
     intro W1 hb hC Bv hBv
     have := contains_at17 Bv wo.heap.size (some ad) c0 (l0.take k) (gave v e) W1 hC (fun o A5 c5 W2 hb2 _ _ => gave_at Bv wo.heap.size v e o A5 c5 W2 (pw_cell_below hb2 hBv) (pw_cell_below hb2 (pw_cell_below hb hc5)) (pw_cell_below hb2 (pw_cell_below hb hc6)))
     rw [htl] at this
     exact this
    have GVA := Aside0.mk GV
    clear GV hc5 hc6 htl
    have hkc : k ≤ c0 := by omega
    cases hg : decide (0 ≤ idxFrom (gave v e) 0 (l0.take k)) with
    | true =>
     rw [hg] at GVA
     rw [hg] at HSN
     replace HSN := Aside0.mk (HSN.out.trans (by rw [if_pos rfl]))
     clear hg
     go_wp2_with (go_at_call 16; go_loud (refine (GVA.out _ (below_alloc (Below.refl _ wr) _) (Kd.C_below CT.out (below_step HBi.out (below_alloc (Below.refl _ wr) _))) wr.heap.size (by simp)).mono ?_; rintro e1 w1 ⟨rfl, hb1⟩; have HB1 := Aside0.mk (below_step (below_alloc HBi.out _) hb1); have HBe1 := Aside0.mk (blk_below (blk_alloc HBe.out _) hb1); clear hb1))
     go_roundw
     case rel => exact ⟨m + 1, by omega, by go_num, by rw [HSN.out]; go_num, HB1.out, HBe1.out⟩
     case measure => simp [intOf]; omega
    | false =>
     rw [hg] at GVA
     rw [hg] at HSN
     replace HSN := Aside0.mk (HSN.out.trans (by rw [if_neg (by decide), Nat.add_zero]))
     clear hg
     go_wp2_with (go_at_call 16; go_loud (refine (GVA.out _ (below_alloc (Below.refl _ wr) _) (Kd.C_below CT.out (below_step HBi.out (below_alloc (Below.refl _ wr) _))) wr.heap.size (by simp)).mono ?_; rintro e1 w1 ⟨rfl, hb1⟩; have HB1 := Aside0.mk (below_step (below_alloc HBi.out _) hb1); have HBe1 := Aside0.mk (blk_below (blk_alloc HBe.out _) hb1); clear hb1))
     go_roundw
     case rel => exact ⟨m + 1, by omega, by go_num, by rw [HSN.out], HB1.out, HBe1.out⟩
     case measure => simp [intOf]; omega
theorem judge_Unfounded.calls (A0 : Option Addr) (c0 : Nat) (l0 : List S27) (r : Int) (w : World) (hr0 : Kd.C k27 w A0 l0.length l0) (hc0 : l0.length ≤ c0) (h : judge_Unfounded.f l0 = some r) :
  Calls Try.prog 11 #[.slice A0 l0.length c0] w fun e w' => e = .returned (.int .i64 r) ∧ Below w.heap.size w w' := by
 obtain rfl := Option.some.inj h
 exact unfounded_walk A0 c0 l0 w hr0 hc0
/-! ### judge_Clash: function 12 -/
set_option maxRecDepth 100000 in
set_option maxHeartbeats 1000000 in
theorem equal_walk (A B : Option Addr) (cA cB : Nat) (xs ys : List Int) (w : World) (hx : (Kd.int .i64).C w A xs.length xs) (hy : (Kd.int .i64).C w B ys.length ys) :
  Calls Try.prog 21 #[.slice A xs.length cA, .slice B ys.length cB] w fun e w' => e = .returned (.bool (decide (xs = ys))) ∧ Below w.heap.size w w' := by
 have hlx := hx.2.1
 have hly := hy.2.1
 have HX := Aside0.mk hx
 have HY := Aside0.mk hy
 clear hx hy
 by_cases hn : xs.length = ys.length
 rotate_left
 ·have hd : decide (xs = ys) = false := decide_eq_false (fun h => hn (by rw [h]))
  have HD := Aside0.mk hd
  have hne : ((xs.length : Int) != (ys.length : Int)) = true := bne_iff_ne.mpr (by omega)
  clear hd
  go_enter Try.func21, Try.ntmps21
  go_wp2
  go_ret
  exact ⟨by rw [HD.out]; rfl, Below.refl _ _⟩
 obtain ⟨n, hnx⟩ : ∃ n, xs.length = n := ⟨_, rfl⟩
 have hny : ys.length = n := hn.symm.trans hnx
 rw [hnx] at HX hlx ⊢
 rw [hny] at HY ⊢
 clear hly hn
 have NX := Aside0.mk hnx
 have NY := Aside0.mk hny
 clear hnx hny
 go_enter Try.func21, Try.ntmps21
 go_wp2
 go_loopw [13] (fun i wr => ∃ k : Nat, k ≤ n ∧ i = .int .i64 k ∧ Below w.heap.size w wr ∧ xs.take k = ys.take k) (fun i _ => n - (intOf i).toNat)
 case atStart => exact ⟨0, Nat.zero_le _, rfl, Below.refl _ _, rfl⟩
 case round =>
  obtain ⟨k, hk, rfl, hB, ht⟩ := hrel
  have HB := Aside0.mk hB
  have HT := Aside0.mk ht
  clear hB ht
  by_cases hlt : k < n
  rotate_left
  ·obtain rfl : k = n := by omega
   have hd : decide (xs = ys) = true := decide_eq_true (by
    have := HT.out
    rw [List.take_of_length_le (by rw [NX.out]; exact Nat.le_refl _), List.take_of_length_le (by rw [NY.out]; exact Nat.le_refl _)] at this
    exact this)
   have HD := Aside0.mk hd
   clear hd
   go_wp2
   go_ret
   exact ⟨by rw [HD.out]; rfl, HB.out⟩
  obtain ⟨adx, hAx, hcx⟩ := Kd.at_int HX.out (k : Int) (by omega) (by omega)
  obtain ⟨ady, hAy, hcy⟩ := Kd.at_int HY.out (k : Int) (by omega) (by omega)
  subst hAx hAy
  rw [Int.toNat_natCast] at hcx hcy
  replace hcx := (HB.out.cell (World.block_lt_of_cell? w _ hcx)).trans hcx
  replace hcy := (HB.out.cell (World.block_lt_of_cell? w _ hcy)).trans hcy
  have rx : rd xs (k : Int) = xs[k]'(by rw [NX.out]; exact hlt) := by unfold rd; rw [List.getD_eq_getElem?_getD, Int.toNat_natCast, List.getElem?_eq_getElem (by rw [NX.out]; exact hlt)]; rfl
  have ry : rd ys (k : Int) = ys[k]'(by rw [NY.out]; exact hlt) := by unfold rd; rw [List.getD_eq_getElem?_getD, Int.toNat_natCast, List.getElem?_eq_getElem (by rw [NY.out]; exact hlt)]; rfl
  obtain ⟨x, hx⟩ : ∃ x, rd xs (k : Int) = x := ⟨_, rfl⟩
  obtain ⟨y, hy⟩ : ∃ y, rd ys (k : Int) = y := ⟨_, rfl⟩
  rw [hx] at hcx rx
  rw [hy] at hcy ry
  have RX := Aside0.mk rx
  have RY := Aside0.mk ry
  clear rx ry hx hy
  have p1 : 0 ≤ (k : Int) := by omega
  have p2 : (k : Int) < (n : Int) := by omega
  cases hne : (x != y) with
  | true =>
   have hd : decide (xs = ys) = false := decide_eq_false (fun h => by
    subst h
    exact absurd (RX.out.trans RY.out.symm) (bne_iff_ne.mp hne))
   have HD := Aside0.mk hd
   clear hd
   go_wp2
   go_quiet (fail)
   go_wp2
   go_ret
   exact ⟨by rw [HD.out]; rfl, pw_below_drewN HB.out nq⟩
  | false =>
   have hxy := bne_eq_false_iff_eq.mp hne
   have hs : xs.take (k + 1) = ys.take (k + 1) := by rw [List.take_succ_eq_append_getElem (by rw [NX.out]; exact hlt), List.take_succ_eq_append_getElem (by rw [NY.out]; exact hlt), HT.out, ← RX.out, ← RY.out, hxy]
   have HS := Aside0.mk hs
   clear hs hxy
   go_wp2
   go_quiet (fail)
   go_wp2
   go_roundw
   case rel => exact ⟨k + 1, by omega, by go_num, pw_below_drewN HB.out nq, HS.out⟩
   case measure => simp [intOf]; omega
/-- The closure of Clash: did o win what e has won, by the same voters? -/
def clashes (e o : S27) : Bool := o.f0 == 3 && (o.f3 == e.f3 && (o.f1 != e.f1 && decide (o.f4 = e.f4)))
set_option maxRecDepth 100000 in
set_option maxHeartbeats 1000000 in
theorem clashes_at (Be : Nat) (e o : S27) (A4 A5 : Option Addr) (c4 c5 : Nat) (w : World) (h1 : w.cell? ⟨Be, 1, none⟩ = some (.int .i64 e.f1)) (h3 : w.cell? ⟨Be, 3, none⟩ = some (.int .i64 e.f3)) (h4 : w.cell? ⟨Be, 4, none⟩ = some (.slice A5 e.f4.length c5))
  (ho : (Kd.int .i64).C w A4 o.f4.length o.f4) (he : (Kd.int .i64).C w A5 e.f4.length e.f4) :
  Calls Try.prog 20 #[evV o A4 c4, .pointer (some ⟨Be, 0, none⟩)] w fun r w' => r = .returned (.bool (clashes e o)) ∧ Below w.heap.size w w' := by
 have l2 := World.block_lt_of_cell? w _ h1
 dsimp only at l2
 have HO := Aside0.mk ho
 have HE := Aside0.mk he
 clear ho he
 unfold evV
 unfold clashes
 cases k0 : (o.f0 == 3) with
 | false =>
  go_enter Try.func20, Try.ntmps20
  go_wp2
  go_ret
  exact ⟨rfl, (Below.refl _ _).alloc (Nat.le_refl _) _⟩
 | true =>
  cases k1 : (o.f3 == e.f3) with
  | false =>
   go_enter Try.func20, Try.ntmps20
   go_wp2
   go_ret
   exact ⟨rfl, (Below.refl _ _).alloc (Nat.le_refl _) _⟩
  | true =>
   cases k2 : (o.f1 != e.f1) with
   | false =>
    go_enter Try.func20, Try.ntmps20
    go_wp2
    go_ret
    exact ⟨rfl, (Below.refl _ _).alloc (Nat.le_refl _) _⟩
   | true =>
    obtain ⟨r, hr⟩ : ∃ r, decide (o.f4 = e.f4) = r := ⟨_, rfl⟩
    have EQ := Aside0.mk (fun W hb => hr ▸ equal_walk A4 A5 c4 c5 o.f4 e.f4 W (Kd.C_below HO.out hb) (Kd.C_below HE.out hb))
    rw [hr]
    clear hr
    go_enter Try.func20, Try.ntmps20
    go_wp2_with (go_at_call 21; go_loud (refine (EQ.out _ (below_alloc (Below.refl _ w) _)).mono ?_; rintro e1 w1 ⟨rfl, hb1⟩; have HB1 := Aside0.mk (below_step (below_alloc (Below.refl _ w) _) hb1); clear hb1))
    go_ret
    exact ⟨rfl, HB1.out⟩

set_option maxRecDepth 100000 in
set_option maxHeartbeats 1000000 in
theorem index_at20 (Be : Nat) (A0 : Option Addr) (c0 : Nat) (l0 : List S27) (p : S27 → Bool) (w : World) (hr0 : Kd.C k27 w A0 l0.length l0)
  (hp : ∀ e A4 c4 W, Below w.heap.size w W → e.f4.length ≤ c4 → (Kd.int .i64).C W A4 e.f4.length e.f4 → Calls Try.prog 20 #[evV e A4 c4, .pointer (some ⟨Be, 0, none⟩)] W fun r W' => r = .returned (.bool (p e)) ∧ Below W.heap.size W W') :
  Calls Try.prog 19 #[.slice A0 l0.length c0, .func (.func 20) #[] #[.pointer (some ⟨Be, 0, none⟩)]] w fun e w' => e = .returned (.int .i64 (idxFrom p 0 l0)) ∧ Below w.heap.size w w' := by
 have hlen := hr0.2.1
 have HR := Aside0.mk hr0
 have HP := Aside0.mk hp
 clear hr0 hp
 go_enter Try.func19, Try.ntmps19
 go_wp2
 go_loopw [8] (fun i wr => IdxRel l0 p (idxFrom p 0 l0) w i wr) (fun i _ => l0.length - (intOf i).toNat)
 case atStart => exact ⟨0, Nat.zero_le _, rfl, Below.refl _ _, rfl⟩
 case round =>
  obtain ⟨k, hk, rfl, hB, hr⟩ := hrel
  have HB := Aside0.mk hB
  have HRR := Aside0.mk hr
  clear hB hr
  by_cases hlt : k < l0.length
  rotate_left
  ·obtain rfl : k = l0.length := by omega
   have hres : idxFrom p 0 l0 = -1 := by
    rw [← HRR.out, List.drop_length]
    rfl
   have HRES := Aside0.mk hres
   clear hres
   go_wp2
   go_ret
   exact ⟨by rw [HRES.out]; rfl, HB.out⟩
  obtain ⟨ad, A4, c4, hA, h0, h1, h2, h3, h4, h5, h6⟩ := at_T27 HR.out (k : Int) (by omega) (by omega)
  have hd := drop_at l0 k hlt
  obtain ⟨e, he⟩ : ∃ e, rd_T27 l0 (k : Int) = e := ⟨_, rfl⟩
  rw [he] at h0 h1 h2 h3 h4 h5 h6 hd
  rw [Int.toNat_natCast] at h0 h1 h2 h3 h4
  subst hA
  replace h0 := (HB.out.cell (World.block_lt_of_cell? w _ h0)).trans h0
  replace h1 := (HB.out.cell (World.block_lt_of_cell? w _ h1)).trans h1
  replace h2 := (HB.out.cell (World.block_lt_of_cell? w _ h2)).trans h2
  replace h3 := (HB.out.cell (World.block_lt_of_cell? w _ h3)).trans h3
  replace h4 := (HB.out.cell (World.block_lt_of_cell? w _ h4)).trans h4
  have CC := Aside0.mk (HP.out e A4 c4 _ HB.out h5 (Kd.C_below h6 HB.out))
  have HD := Aside0.mk hd
  clear hd h5 h6 he
  cases hpe : p e with
  | true =>
   have hres : idxFrom p 0 l0 = (k : Int) := by
    rw [← HRR.out, HD.out]
    simp only [idxFrom]
    rw [if_pos hpe]
   have HRES := Aside0.mk hres
   clear hres
   rw [hpe] at CC
   clear hpe
   go_wp2_with (go_at_call 20; go_loud (refine CC.out.mono ?_; rintro e1 w1 ⟨rfl, hb1⟩; have HB1 := Aside0.mk (below_step HB.out hb1); clear hb1))
   go_ret
   exact ⟨by rw [HRES.out]; rfl, HB1.out⟩
  | false =>
   have hres : idxFrom p ((k + 1 : Nat) : Int) (l0.drop (k + 1)) = idxFrom p 0 l0 := by
    rw [← HRR.out, HD.out]
    simp only [idxFrom]
    rw [hpe, if_neg (by decide)]
    rfl
   have HRES := Aside0.mk hres
   clear hres
   rw [hpe] at CC
   clear hpe
   go_wp2_with (go_at_call 20; go_loud (refine CC.out.mono ?_; rintro e1 w1 ⟨rfl, hb1⟩; have HB1 := Aside0.mk (below_step HB.out hb1); clear hb1))
   go_roundw
   case rel => exact ⟨k + 1, by omega, by go_num, HB1.out, HRES.out⟩
   case measure => simp [intOf]; omega

def clashAt (l : List S27) (k : Nat) : Int := if (rd_T27 l (k : Int)).f0 = 3 then idxFrom (clashes (rd_T27 l (k : Int))) 0 (l.take k) else -1
def clashFrom (l : List S27) : Nat → Nat → Int × Int
 | 0, _ => (-1, -1)
 | d + 1, k => if 0 ≤ clashAt l k then (clashAt l k, (k : Int)) else clashFrom l d (k + 1)
def judge_Clash.f (l0 : List S27) : Option (Int × Int) := some (clashFrom l0 l0.length 0)
def ClRel (l : List S27) (r : Int × Int) (w0 : World) (i : Value) (wr : World) : Prop :=
 ∃ (k d : Nat), k + d = l.length ∧ i = .int .i64 k ∧ Below w0.heap.size w0 wr ∧ clashFrom l d k = r
set_option maxRecDepth 100000 in
set_option maxHeartbeats 4000000 in
theorem clash_walk (A0 : Option Addr) (c0 : Nat) (l0 : List S27) (w : World) (hr0 : Kd.C k27 w A0 l0.length l0) (hc0 : l0.length ≤ c0) :
  Calls Try.prog 12 #[.slice A0 l0.length c0] w fun e w' => e = .returned (.tuple #[.int .i64 (clashFrom l0 l0.length 0).1, .int .i64 (clashFrom l0 l0.length 0).2]) ∧ Below w.heap.size w w' := by
 have hmf : ∀ (fn : Fn) (first cap : Array Value) (w : World), (Instr.makeFunc fn first cap).run Try.prog w = .ok (.func fn first cap) w := fun _ _ _ _ => rfl
 have hlen := hr0.2.1
 have HR := Aside0.mk hr0
 clear hr0
 go_enter Try.func12, Try.ntmps12
 go_wp2
 go_loopw [9] (fun i wr => ClRel l0 (clashFrom l0 l0.length 0) w i wr) (fun i _ => l0.length - (intOf i).toNat)
 case atStart => exact ⟨0, l0.length, by omega, rfl, Below.refl _ _, rfl⟩
 case round =>
  obtain ⟨k, d, hk, rfl, hB, hr⟩ := hrel
  have HB := Aside0.mk hB
  have HRR := Aside0.mk hr
  clear hB hr
  by_cases hlt : k < l0.length
  rotate_left
  ·obtain rfl : d = 0 := by omega
   have hres : clashFrom l0 l0.length 0 = (-1, -1) := by
    rw [← HRR.out]
    rfl
   have HRES := Aside0.mk hres
   clear hres
   go_wp2
   go_ret2
   exact ⟨by rw [HRES.out]; rfl, HB.out⟩
  obtain ⟨d, rfl⟩ : ∃ d', d = d' + 1 := ⟨d - 1, by omega⟩
  obtain ⟨ad, A4, c4, hA, h0, h1, h2, h3, h4, h5, h6⟩ := at_T27 HR.out (k : Int) (by omega) (by omega)
  have hu : clashAt l0 k = if (rd_T27 l0 (k : Int)).f0 = 3 then idxFrom (clashes (rd_T27 l0 (k : Int))) 0 (l0.take k) else -1 := rfl
  obtain ⟨e, he⟩ : ∃ e, rd_T27 l0 (k : Int) = e := ⟨_, rfl⟩
  rw [he] at h0 h1 h2 h3 h4 h5 h6 hu
  rw [Int.toNat_natCast] at h0 h1 h2 h3 h4
  subst hA
  replace h0 := (HB.out.cell (World.block_lt_of_cell? w _ h0)).trans h0
  replace h1 := (HB.out.cell (World.block_lt_of_cell? w _ h1)).trans h1
  replace h2 := (HB.out.cell (World.block_lt_of_cell? w _ h2)).trans h2
  replace h3 := (HB.out.cell (World.block_lt_of_cell? w _ h3)).trans h3
  replace h4 := (HB.out.cell (World.block_lt_of_cell? w _ h4)).trans h4
  have H6 := Aside0.mk h6
  have HU := Aside0.mk hu
  have hkc : k ≤ c0 := by omega
  clear hu h5 h6 he
  cases hk3 : (e.f0 != 3) with
  | true =>
   have hres : clashFrom l0 d (k + 1) = clashFrom l0 l0.length 0 := by
    rw [← HRR.out]
    simp only [clashFrom]
    rw [HU.out, if_neg (bne_iff_ne.mp hk3), if_neg (by decide)]
   have HRES := Aside0.mk hres
   clear hres
   go_wp2
   go_roundw
   case rel => exact ⟨k + 1, d, by omega, by go_num, HB.out.alloc HB.out.size _, HRES.out⟩
   case measure => simp [intOf]; omega
  | false =>
   have hcl : clashAt l0 k = idxFrom (clashes e) 0 (l0.take k) := by rw [HU.out, if_pos (bne_eq_false_iff_eq.mp hk3)]
   have CT := Aside0.mk (C_take HR.out k (by omega))
   have htl : (l0.take k).length = k := by simp; omega
   have GV : ∀ W1, Below w.heap.size w W1 → ∀ Be, W1.cell? ⟨Be, 1, none⟩ = some (.int .i64 e.f1) → W1.cell? ⟨Be, 3, none⟩ = some (.int .i64 e.f3) → W1.cell? ⟨Be, 4, none⟩ = some (.slice A4 e.f4.length c4) →
     Calls Try.prog 19 #[.slice (some ad) k c0, .func (.func 20) #[] #[.pointer (some ⟨Be, 0, none⟩)]] W1 fun e1 w' => e1 = .returned (.int .i64 (clashAt l0 k)) ∧ Below W1.heap.size W1 w' := by
    intro W1 hb Be k1 k2 k3
    have := index_at20 Be (some ad) c0 (l0.take k) (clashes e) W1 (Kd.C_below CT.out hb) (fun o A5 c5 W2 hb2 _ ho => clashes_at Be e o A5 A4 c5 c4 W2 (pw_cell_below hb2 k1) (pw_cell_below hb2 k2) (pw_cell_below hb2 k3) ho (Kd.C_below (Kd.C_below H6.out hb) hb2))
    rw [htl, ← hcl] at this
    exact this
   obtain ⟨r, hrr⟩ : ∃ r, clashAt l0 k = r := ⟨_, rfl⟩
   have hstep : clashFrom l0 l0.length 0 = if 0 ≤ r then (r, (k : Int)) else clashFrom l0 d (k + 1) := by
    rw [← HRR.out]
    simp only [clashFrom]
    rw [hrr]
   rw [hrr] at GV
   have GVA := Aside0.mk GV
   have HST := Aside0.mk hstep
   clear GV hstep hcl htl hrr
   have HBN := Aside0.mk (below_step HB.out (below_alloc (Below.refl _ wr) (.cells #[.int .i64 e.f0, .int .i64 e.f1, .int .i64 e.f2, .int .i64 e.f3, .slice A4 e.f4.length c4] 27)))
   by_cases hr0 : 0 ≤ r
   ·have HRES := Aside0.mk (HST.out.trans (if_pos hr0))
    go_wp2_with (go_at_call 19; go_loud (refine (GVA.out _ HBN.out wr.heap.size (by simp) (by simp) (by simp)).mono ?_; rintro e1 w1 ⟨rfl, hb1⟩; have HB1 := Aside0.mk (below_step HBN.out hb1); clear hb1))
    go_ret2
    exact ⟨by rw [HRES.out]; rfl, HB1.out⟩
   have HRES := Aside0.mk (HST.out.trans (if_neg hr0)).symm
   go_wp2_with (go_at_call 19; go_loud (refine (GVA.out _ HBN.out wr.heap.size (by simp) (by simp) (by simp)).mono ?_; rintro e1 w1 ⟨rfl, hb1⟩; have HB1 := Aside0.mk (below_step HBN.out hb1); clear hb1))
   go_roundw
   case rel => exact ⟨k + 1, d, by omega, by go_num, HB1.out, HRES.out⟩
   case measure => simp [intOf]; omega
theorem judge_Clash.calls (A0 : Option Addr) (c0 : Nat) (l0 : List S27) (r1 r2 : Int) (w : World) (hr0 : Kd.C k27 w A0 l0.length l0) (hc0 : l0.length ≤ c0) (h : judge_Clash.f l0 = some (r1, r2)) :
  Calls Try.prog 12 #[.slice A0 l0.length c0] w fun e w' => e = .returned (.tuple #[.int .i64 r1, .int .i64 r2]) ∧ Below w.heap.size w w' := by
 have hh := Option.some.inj h
 have := clash_walk A0 c0 l0 w hr0 hc0
 rw [hh] at this
 exact this
end Go.Proofs.Ytcpiccgnaecdkaa.QJudgeCuts
