/- The machine's side of JudgeTwice, part 1 of 1: functions and their contracts, printed by a program of this session. -/
import Derived.Test.YtcpiccgnaecdkaaProg
import Derived.Below
import Derived.Deep.Draws
import Derived.Deep.AppendLies
import Derived.Maps.AppendAt
import Derived.OwnWalk
import Derived.Laws.BytesArg
import Derived.Laws.MakeOwn
import Derived.Laws.OwnMore
import Derived.Deep.OwnRows
import Derived.Tactics
import Derived.Lib.ConvBytes
import Derived.Laws.Slices
import Derived.WalkKit
import Derived.KernelRfl
import Derived.RowKit3
import Derived.Deep.LoopGhost
import Derived.Deep.QuietTactic
import Derived.BigQuiet
import Derived.WideLaws
import Derived.Deep.DeepCutAuto
import Derived.Deep.CutBlock
import Derived.Deep.RegionHeld3
import Derived.Laws.Rows
import Derived.Lib.AppendStr
import Derived.ArgAppend
import Derived.Laws.IdiomCopy
import Derived.OrdersHeld
import Derived.Laws.BitsLemmas
import Derived.RowKit
import Derived.Test.YtcpiccgnaecdkaaWWords
import Derived.Test.YtcpiccgnaecdkaaWLast
import Derived.Test.YtcpiccgnaecdkaaWTab
import Derived.Test.YtcpiccgnaecdkaaWFour
import Derived.Test.YtcpiccgnaecdkaaWQPut
import Derived.Test.YtcpiccgnaecdkaaWApart
import Derived.Test.YtcpiccgnaecdkaaWArr
import Derived.Test.YtcpiccgnaecdkaaWZeros
import Derived.Test.YtcpiccgnaecdkaaWFoot
import Derived.Test.YtcpiccgnaecdkaaWKept
import Derived.Test.YtcpiccgnaecdkaaWShare
import Derived.Test.YtcpiccgnaecdkaaWN
import Derived.Test.YtcpiccgnaecdkaaWFootNe
import Derived.Test.YtcpiccgnaecdkaaWAt
import Derived.Test.YtcpiccgnaecdkaaWEqStruct
import Derived.Test.YtcpiccgnaecdkaaWRepsOne
import Derived.Test.YtcpiccgnaecdkaaWInv
import Derived.Test.YtcpiccgnaecdkaaWInvWords
import Derived.Test.YtcpiccgnaecdkaaWGuard
import Derived.Test.YtcpiccgnaecdkaaWNEv
import Derived.Test.YtcpiccgnaecdkaaWMore
import Derived.DeepKeys4
import Derived.Maps.Own
import Derived.Maps.OwnOps
import Derived.Maps.Views
namespace Go.Proofs.Ytcpiccgnaecdkaa.QJudgeTwice
open Go.RowKit Go.Proofs.YtcpiccgnaecdkaaW.PrintWords Go.Proofs.YtcpiccgnaecdkaaW.PrintLast Go.Proofs.YtcpiccgnaecdkaaW.PrintMore
attribute [local go_sem] max2_int min2_int max_two min_two max_three min_three max_four min_four   -- for this text's walks alone
set_option linter.unusedVariables false
set_option linter.unusedSimpArgs false

def errW : Option Int → Value
 | none => .nilIface
 | some c => .iface 0 (.int .i64 c)
theorem errW_none : errW none = .nilIface := rfl
theorem errW_some (c : Int) : errW (some c) = .iface 0 (.int .i64 c) := rfl

theorem info27 : (Try.prog.info? 27).map (fun i => (i.zero, i.size, i.bytes)) = some (some (.agg #[(.int .i64 0), (.int .i64 0), (.int .i64 0), (.int .i64 0), (.slice none 0 0)]), 5, 56) := by kernel_rfl
-- the values' own types
def rd_L1 (xs : List (List Int)) (i : Int) : (List Int) := xs.getD i.toNat ([] : List Int)
theorem at_L1 {w : World} {A : Option Addr} {n : Nat} {xs : List (List Int)} (h : Kd.C (Kd.slice 3 (Kd.int .i64)) w A n xs) (i : Int) (h0 : 0 ≤ i) (h1 : i < n) : ∃ ad A0 c0, A = some ad ∧ w.cell? (ad.add i.toNat) = some (.slice A0 (rd_L1 xs i).length c0) ∧ (rd_L1 xs i).length ≤ c0 ∧ (Kd.int .i64).C w A0 (rd_L1 xs i).length (rd_L1 xs i) := by
 obtain ⟨ad, c, e, _, hK, hc0⟩ := Kd.C_get h ([] : List Int) i h0 h1
 have hc : ∀ j u, c[j]? = some u → w.cell? (ad.add (i.toNat * 1 + j)) = some u := hc0
 obtain ⟨A0, c0, rfl, l0, g0⟩ := hK
 exact ⟨ad, A0, c0, e, by have hq := hc 0 _ rfl; rwa [Nat.mul_one, Nat.add_zero] at hq, l0, g0⟩

/-! #### struct type 27 -/
structure S27 where
 f0 : Int
 f1 : Int
 f2 : Int
 f3 : Int
 f4 : (List Int)
def z27 : S27 := ⟨(0 : Int), (0 : Int), (0 : Int), (0 : Int), ([] : List Int)⟩
def k27 : Kd S27 := Kd.iso (Kd.pair (Kd.int .i64) (Kd.pair (Kd.int .i64) (Kd.pair (Kd.int .i64) (Kd.pair (Kd.int .i64) (Kd.slice 3 (Kd.int .i64)))))) (fun x : S27 => (x.f0, x.f1, x.f2, x.f3, x.f4))
theorem k27_open {w : World} {x : S27} {cs : List Value} (h : k27.K w x cs) : ∃ A4 c4, cs = [.int .i64 x.f0, .int .i64 x.f1, .int .i64 x.f2, .int .i64 x.f3, .slice A4 x.f4.length c4] ∧ x.f4.length ≤ c4 ∧ (Kd.int .i64).C w A4 x.f4.length x.f4 := by
 obtain ⟨_, _, rfl, rfl, ⟨_, _, rfl, rfl, ⟨_, _, rfl, rfl, ⟨_, _, rfl, rfl, ⟨A4, c4, rfl, l4, g4⟩⟩⟩⟩⟩ := h
 exact ⟨A4, c4, rfl, l4, g4⟩
theorem k27_openM {w : World} {base : Nat} {ok : Nat → Prop} {x : S27} {cs : List Value} (h : k27.M w base ok x cs) : ∃ v4, cs = [.int .i64 x.f0, .int .i64 x.f1, .int .i64 x.f2, .int .i64 x.f3, v4] ∧ (Kd.int .i64).R 3 w base ok v4 x.f4 := by
 obtain ⟨_, _, rfl, rfl, ⟨_, _, rfl, rfl, ⟨_, _, rfl, rfl, ⟨_, _, rfl, rfl, ⟨v4, rfl, g4⟩⟩⟩⟩⟩ := h
 exact ⟨v4, rfl, g4⟩
theorem k27_mk (w : World) (x : S27) {A4 : Option Addr} {c4 : Nat} (l4 : x.f4.length ≤ c4) (g4 : (Kd.int .i64).C w A4 x.f4.length x.f4) : k27.K w x [.int .i64 x.f0, .int .i64 x.f1, .int .i64 x.f2, .int .i64 x.f3, .slice A4 x.f4.length c4] := ⟨[.int .i64 x.f0], [.int .i64 x.f1, .int .i64 x.f2, .int .i64 x.f3, .slice A4 x.f4.length c4], rfl, rfl, ⟨[.int .i64 x.f1], [.int .i64 x.f2, .int .i64 x.f3, .slice A4 x.f4.length c4], rfl, rfl, ⟨[.int .i64 x.f2], [.int .i64 x.f3, .slice A4 x.f4.length c4], rfl, rfl, ⟨[.int .i64 x.f3], [.slice A4 x.f4.length c4], rfl, rfl, ⟨A4, c4, rfl, l4, g4⟩⟩⟩⟩⟩
theorem k27_mkM (w : World) (base : Nat) (ok : Nat → Prop) (x : S27) {v4 : Value} (g4 : (Kd.int .i64).R 3 w base ok v4 x.f4) : k27.M w base ok x [.int .i64 x.f0, .int .i64 x.f1, .int .i64 x.f2, .int .i64 x.f3, v4] := ⟨[.int .i64 x.f0], [.int .i64 x.f1, .int .i64 x.f2, .int .i64 x.f3, v4], rfl, rfl, ⟨[.int .i64 x.f1], [.int .i64 x.f2, .int .i64 x.f3, v4], rfl, rfl, ⟨[.int .i64 x.f2], [.int .i64 x.f3, v4], rfl, rfl, ⟨[.int .i64 x.f3], [v4], rfl, rfl, ⟨v4, rfl, g4⟩⟩⟩⟩⟩
def rd_T27 (xs : List S27) (i : Int) : S27 := xs.getD i.toNat z27
theorem at_T27 {w : World} {A : Option Addr} {n : Nat} {xs : List S27} (h : Kd.C k27 w A n xs) (i : Int) (h0 : 0 ≤ i) (h1 : i < n) : ∃ ad A4 c4, A = some ad ∧ w.cell? (ad.add (i.toNat * 5)) = some (.int .i64 (rd_T27 xs i).f0) ∧ w.cell? ⟨(ad.add (i.toNat * 5)).block, (ad.add (i.toNat * 5)).off + 1, none⟩ = some (.int .i64 (rd_T27 xs i).f1) ∧ w.cell? ⟨(ad.add (i.toNat * 5)).block, (ad.add (i.toNat * 5)).off + 2, none⟩ = some (.int .i64 (rd_T27 xs i).f2) ∧ w.cell? ⟨(ad.add (i.toNat * 5)).block, (ad.add (i.toNat * 5)).off + 3, none⟩ = some (.int .i64 (rd_T27 xs i).f3) ∧ w.cell? ⟨(ad.add (i.toNat * 5)).block, (ad.add (i.toNat * 5)).off + 4, none⟩ = some (.slice A4 (rd_T27 xs i).f4.length c4) ∧ (rd_T27 xs i).f4.length ≤ c4 ∧ (Kd.int .i64).C w A4 (rd_T27 xs i).f4.length (rd_T27 xs i).f4 := by
 obtain ⟨ad, c, e, _, hK, hc0⟩ := Kd.C_get h z27 i h0 h1
 have hc : ∀ j u, c[j]? = some u → w.cell? (ad.add (i.toNat * 5 + j)) = some u := hc0
 obtain ⟨A4, c4, rfl, l4, g4⟩ := k27_open hK
 exact ⟨ad, A4, c4, e, hc 0 _ rfl, by rw [← add_field _ _ 1 (by omega)]; exact hc 1 _ rfl, by rw [← add_field _ _ 2 (by omega)]; exact hc 2 _ rfl, by rw [← add_field _ _ 3 (by omega)]; exact hc 3 _ rfl, by rw [← add_field _ _ 4 (by omega)]; exact hc 4 _ rfl, l4, g4⟩
/-! ### judge_Twice: function 10 -/
/-! A set of triples that the call keeps in a map. -/
open Go.Maps in
theorem law38 : Keyed Try.prog 38 := Keyed.of_law (deep_law_laid (by kernel_rfl) (m := 3) (by omega) (k := 38) (of_decide_eq_true (by kernel_rfl)) (by kernel_rfl) (by kernel_rfl))
def kv (t : Int × Int × Int) : Value := .agg #[.int .i64 t.1, .int .i64 t.2.1, .int .i64 t.2.2]
def wfT (t : Int × Int × Int) : Prop := (Lit.int .i64 t.1).wf = true ∧ (Lit.int .i64 t.2.1).wf = true ∧ (Lit.int .i64 t.2.2).wf = true
theorem keyLits38 (d : Nat) (t : Int × Int × Int) (h : wfT t) : Try.prog.keyLits (d + 2) 38 [.int .i64 t.1, .int .i64 t.2.1, .int .i64 t.2.2] = some [.int .i64 t.1, .int .i64 t.2.1, .int .i64 t.2.2] := by
 obtain ⟨h1, h2, h3⟩ := h
 have hc : Try.prog.cellsOf 38 = 3 := by kernel_rfl
 have hc3 : Try.prog.cellsOf 3 = 1 := by kernel_rfl
 simp [Program.keyLits, Try.underlying38, Try.underlying3, hc, hc3, h1, h2, h3]
theorem key38 (t : Int × Int × Int) (h : wfT t) : ∃ kl, keyOf Try.prog 38 (kv t) = some kl := by
 have hk : Try.prog.keyType 38 = true := by kernel_rfl
 have hf : (kv t).formed Try.prog 38 = true := by
  have hc : Try.prog.cellsOf 38 = 3 := by kernel_rfl
  simp [kv, Value.formed, Try.underlying38, hc]
 obtain ⟨d, hd⟩ : ∃ d, Try.prog.types.size + 1 = d + 2 := ⟨Try.prog.types.size - 1, by have : 1 ≤ Try.prog.types.size := of_decide_eq_true (by kernel_rfl); omega⟩
 refine ⟨.string (keyBytes [.int .i64 t.1, .int .i64 t.2.1, .int .i64 t.2.2]), ?_⟩
 unfold keyOf
 rw [Try.underlying38]
 simp only [hk, hf, Bool.and_self, if_true, hd]
 rw [show (kv t).cells.toList = [.int .i64 t.1, .int .i64 t.2.1, .int .i64 t.2.2] from rfl, keyLits38 d t h]
 rfl
/-- Block b of w is a map of at most n entries that holds just the triples of S. -/
def HasSet (w : World) (b n : Nat) (S : List (Int × Int × Int)) : Prop :=
 ∃ D : DataW Unit, w.ownsMap Try.prog 38 (plainElem Try.prog 4) b n D ∧ Maps.IsMap D ∧ ∀ t kl, keyOf Try.prog 38 (kv t) = some kl → D.atKey kl (.lit (.bool false)) = .lit (.bool (S.contains t))
theorem HasSet.made (w : World) : HasSet (w.alloc (.map #[] 0)) w.heap.size 0 [] :=
 ⟨.map [], World.ownsMap_made _ _ _ _, Maps.isMap_empty, fun t kl _ => rfl⟩
theorem HasSet.alloc {w : World} {b n : Nat} {S : List (Int × Int × Int)} (h : HasSet w b n S) (o : Obj) : HasSet (w.alloc o) b n S := by
 obtain ⟨D, h1, h2⟩ := h
 exact ⟨D, h1.alloc o, h2⟩
theorem HasSet.drew {w : World} {b n : Nat} {S : List (Int × Int × Int)} (h : HasSet w b n S) : HasSet w.drew b n S := h
theorem HasSet.mono {w : World} {b n m : Nat} {S : List (Int × Int × Int)} (h : HasSet w b n S) (hm : n ≤ m) : HasSet w b m S := by
 obtain ⟨D, h1, h2⟩ := h
 exact ⟨D, h1.mono hm, h2⟩
theorem zero4 (w : World) : (zeroValue 4).run Try.prog w = .ok (.bool false) w := by kernel_rfl
theorem plainElem_bool_inv {H : Type} {v : Value} {z : DataW H × List MemPlace} (h : plainElem Try.prog 4 v = some z) : ∃ x, v = .bool x ∧ z = (.lit (.bool x), []) := by
 unfold plainElem at h
 rw [Try.underlying4] at h
 cases v <;> simp at h
 exact ⟨_, rfl, h.symm⟩
/-- A look-up in the set. -/
theorem lookup_set (w : World) {ops : Array Oper} {rest : List Oper} {o : Oper} {a : Act} {Q : Exit → Act → World → Prop}
  (hg : o.guard = none) (m x : Operand) (hop : o.op = Op.lookup 36 m x false) (b n : Nat) (S : List (Int × Int × Int)) (hm : a.eval m = .map (some b)) (hS : HasSet w b n S) (t : Int × Int × Int) (ht : wfT t) (hx : a.eval x = kv t) (v : Bool) (hv : S.contains t = v)
  (hK : wpList Try.prog ops Q rest (a.put o.dst (.bool v)) w) : wpList Try.prog ops Q (o :: rest) a w := by
 obtain ⟨D, h1, _, h3⟩ := hS
 obtain ⟨kl, hkey⟩ := key38 t ht
 obtain ⟨v', ps, hrun, hv'⟩ := h1.lookup law38 Try.underlying36 (zero4 w) (plainElem_bool Try.underlying4 false) hkey
 obtain ⟨c, rfl, hc⟩ := plainElem_bool_inv hv'
 have h4 := h3 t kl hkey
 simp only [Prod.mk.injEq] at hc
 rw [h4] at hc
 have h5 : S.contains t = c := by injection hc.1 with h6; injection h6
 refine wpList_plain hg fun K' hK' => ?_
 unfold Oper.wp
 simp [execOp, hop, hm, hx, hrun, Result.andThen]
 exact hK' _ _ (hv.symm.trans h5 ▸ hK)
/-- A store into the set. -/
theorem store_set (w : World) {ops : Array Oper} {rest : List Oper} {o : Oper} {a : Act} {Q : Exit → Act → World → Prop}
  (hg : o.guard = none) (m x v : Operand) (hop : o.op = Op.mapUpdate 36 m x v) (b n : Nat) (S : List (Int × Int × Int)) (hm : a.eval m = .map (some b)) (hS : HasSet w b n S) (hn : n < maxLen) (t : Int × Int × Int) (ht : wfT t) (hx : a.eval x = kv t) (hv : a.eval v = .bool true)
  (hK : ∀ w', HasSet w' b (n + 1) (t :: S) → w.grownBy w' (some b) → wpList Try.prog ops Q rest (a.put o.dst undef) w') : wpList Try.prog ops Q (o :: rest) a w := by
 obtain ⟨D, h1, h2, h3⟩ := hS
 obtain ⟨kl, hkey⟩ := key38 t ht
 refine wpList_mapUpdate_own w hg m x v 36 hop 38 4 law38 Try.underlying36 (plainElem Try.prog 4) b n D hm h1 hn (kv t) (.bool true) kl hx hv hkey _ [] (plainElem_bool Try.underlying4 true) (fun w' k1 k2 => hK w' ⟨_, k1, ?_, fun s ks hs => ?_⟩ k2)
 ·obtain ⟨es, rfl⟩ := h2
  exact ⟨_, rfl⟩
 ·by_cases e : s = t
  ·subst e
   have : ks = kl := Option.some.inj (hs.symm.trans hkey)
   subst this
   rw [Maps.atKey_put_same h2 (law38.key hkey)]
   simp
  ·have hne : ks ≠ kl := fun e2 => e (by
    have := law38.inj hs (e2 ▸ hkey)
    simp only [kv, Value.agg.injEq, Array.mk.injEq, List.cons.injEq, Value.int.injEq, true_and, and_true] at this
    exact Prod.ext this.1 (Prod.ext this.2.1 this.2.2))
   rw [Maps.atKey_put_other hne, h3 s ks hs]
   have e2 : (s == t) = false := beq_eq_false_iff_ne.mpr e
   rw [List.contains_cons, e2, Bool.false_or]
/-! What was done twice. -/
def tr (e : S27) : Int × Int × Int := (e.f0, e.f1, e.f3)
def wfE (e : S27) : Prop := wfT (tr e)
instance (e : S27) : Decidable (wfE e) := by unfold wfE wfT; infer_instance
def twiceFrom (S : List (Int × Int × Int)) (i : Int) : List S27 → Int
 | [] => -1
 | e :: l => if e.f0 ≠ 1 ∧ e.f0 ≠ 3 then twiceFrom S (i + 1) l else if S.contains (tr e) = true then i else twiceFrom (tr e :: S) (i + 1) l
def judge_Twice.f (l0 : List S27) : Option Int := if ∀ e ∈ l0, wfE e then some (twiceFrom [] 0 l0) else none
theorem drop_at (l : List S27) (k : Nat) (h : k < l.length) : l.drop k = rd_T27 l (k : Int) :: l.drop (k + 1) := by
 unfold rd_T27
 rw [List.getD_eq_getElem?_getD, Int.toNat_natCast, List.getElem?_eq_getElem h]
 exact List.drop_eq_getElem_cons h
theorem rd_mem (l : List S27) (k : Nat) (h : k < l.length) : rd_T27 l (k : Int) ∈ l := by
 unfold rd_T27
 rw [List.getD_eq_getElem?_getD, Int.toNat_natCast, List.getElem?_eq_getElem h]
 exact List.getElem_mem h
def TwRel (l : List S27) (r : Int) (b : Nat) (w0 : World) (i : Value) (wr : World) : Prop :=
 ∃ (k : Nat) (S : List (Int × Int × Int)), k ≤ l.length ∧ i = .int .i64 k ∧ HasSet wr b k S ∧ Below w0.heap.size w0 wr ∧ b < wr.heap.size ∧ twiceFrom S k (l.drop k) = r
set_option maxRecDepth 100000 in
set_option maxHeartbeats 2000000 in
theorem twice_walk (A0 : Option Addr) (c0 : Nat) (l0 : List S27) (w : World) (hr0 : Kd.C k27 w A0 l0.length l0) (hw : ∀ e ∈ l0, wfE e) :
  Calls Try.prog 10 #[.slice A0 l0.length c0] w fun e w' => e = .returned (.int .i64 (twiceFrom [] 0 l0)) ∧ Below w.heap.size w w' := by
 have hmm := @run_makeMap Try.prog
 have hlen := hr0.2.1
 have HR := Aside0.mk hr0
 clear hr0
 have HW := Aside0.mk hw
 clear hw
 go_enter Try.func10, Try.ntmps10
 go_wp2
 go_loopw [10] (fun i wr => TwRel l0 (twiceFrom [] 0 l0) w.heap.size w i wr) (fun i _ => l0.length - (intOf i).toNat)
 case atStart => exact ⟨0, [], Nat.zero_le _, rfl, HasSet.made w, (Below.refl _ _).alloc (Nat.le_refl _) _, by simp, rfl⟩
 case round =>
  obtain ⟨k, S, hk, rfl, hS, hB, hb, hr⟩ := hrel
  have HS := Aside0.mk hS
  have HB := Aside0.mk hB
  have HRR := Aside0.mk hr
  clear hS hB hr
  by_cases hlt : k < l0.length
  rotate_left
  ·obtain rfl : k = l0.length := by omega
   have hres : twiceFrom [] 0 l0 = -1 := by
    rw [← HRR.out, List.drop_length]
    rfl
   have HRES := Aside0.mk hres
   clear hres
   go_wp2
   go_ret
   exact ⟨by rw [HRES.out]; rfl, HB.out⟩
  obtain ⟨ad, A4, c4, hA, h0, h1, h2, h3, h4, h5, h6⟩ := at_T27 HR.out (k : Int) (by omega) (by omega)
  have HE := Aside0.mk (HW.out _ (rd_mem l0 k hlt))
  have hd := drop_at l0 k hlt
  obtain ⟨e, he⟩ : ∃ e, rd_T27 l0 (k : Int) = e := ⟨_, rfl⟩
  rw [he] at h0 h1 h2 h3 h4 hd HE
  rw [Int.toNat_natCast] at h0 h1 h2 h3 h4
  subst hA
  replace h0 := (HB.out.cell (World.block_lt_of_cell? w _ h0)).trans h0
  replace h1 := (HB.out.cell (World.block_lt_of_cell? w _ h1)).trans h1
  replace h2 := (HB.out.cell (World.block_lt_of_cell? w _ h2)).trans h2
  replace h3 := (HB.out.cell (World.block_lt_of_cell? w _ h3)).trans h3
  replace h4 := (HB.out.cell (World.block_lt_of_cell? w _ h4)).trans h4
  have HD := Aside0.mk hd
  clear hd h5 h6 he
  have hbb : w.heap.size < wr.heap.size := hb
  have put : ∀ S', S' = S ∨ S' = tr e :: S → twiceFrom S' ((k + 1 : Nat) : Int) (l0.drop (k + 1)) = twiceFrom [] 0 l0 → ∀ w2, HasSet w2 w.heap.size (k + 1) S' → Below w.heap.size w w2 → w.heap.size < w2.heap.size → TwRel l0 (twiceFrom [] 0 l0) w.heap.size w (.int .i64 ((k : Int) + 1)) w2 :=
   fun S' _ h w2 hs2 hb2 hl2 => ⟨k + 1, S', by omega, by go_num, hs2, hb2, hl2, h⟩
  have PUT := Aside0.mk put
  clear put
  by_cases hk1 : e.f0 = 1 ∨ e.f0 = 3
  rotate_left
  ·-- something else
   have b1 : (e.f0 != 1) = true := bne_iff_ne.mpr (by omega)
   have b3 : (e.f0 != 3) = true := bne_iff_ne.mpr (by omega)
   have hres : twiceFrom S ((k + 1 : Nat) : Int) (l0.drop (k + 1)) = twiceFrom [] 0 l0 := by
    rw [← HRR.out, HD.out]
    simp only [twiceFrom]
    rw [if_pos (by omega)]
    rfl
   have HRES := Aside0.mk hres
   clear hres hk1
   go_wp2
   go_roundw
   case rel => exact PUT.out _ (.inl rfl) HRES.out _ (((HS.out.alloc _).alloc _).mono (Nat.le_succ _)) ((HB.out.alloc (by omega) _).alloc (by simp; omega) _) (by simp; omega)
   case measure => simp [intOf]; omega
  -- a vote, or a win
  have hnk : ¬ (e.f0 ≠ 1 ∧ e.f0 ≠ 3) := by omega
  by_cases hc : S.contains (tr e) = true
  ·have hres : twiceFrom [] 0 l0 = (k : Int) := by
    rw [← HRR.out, HD.out]
    simp only [twiceFrom]
    rw [if_neg hnk, if_pos hc]
   have HRES := Aside0.mk hres
   have HC := Aside0.mk hc
   clear hres hnk hc
   rcases hk1 with hk1 | hk1
   ·have b1 : (e.f0 != 1) = false := bne_eq_false_iff_eq.mpr hk1
    have b2 : (e.f0 == 1) = true := beq_iff_eq.mpr hk1
    clear hk1
    go_wp2_with (first | (at_lookup; refine lookup_set _ rfl _ _ rfl w.heap.size k S rfl ((HS.out.alloc _).alloc _) (tr e) HE.out rfl true HC.out ?_))
    go_ret
    exact ⟨by rw [HRES.out]; rfl, (HB.out.alloc (by omega) _).alloc (by simp; omega) _⟩
   ·have b1 : (e.f0 != 1) = true := bne_iff_ne.mpr (by omega)
    have b3 : (e.f0 != 3) = false := bne_eq_false_iff_eq.mpr hk1
    clear hk1
    go_wp2_with (first | (at_lookup; refine lookup_set _ rfl _ _ rfl w.heap.size k S rfl ((HS.out.alloc _).alloc _) (tr e) HE.out rfl true HC.out ?_))
    go_ret
    exact ⟨by rw [HRES.out]; rfl, (HB.out.alloc (by omega) _).alloc (by simp; omega) _⟩
  replace hc : S.contains (tr e) = false := by simpa using hc
  have hres : twiceFrom (tr e :: S) ((k + 1 : Nat) : Int) (l0.drop (k + 1)) = twiceFrom [] 0 l0 := by
   rw [← HRR.out, HD.out]
   simp only [twiceFrom]
   rw [if_neg hnk, if_neg (by rw [hc]; decide)]
   rfl
  have HRES := Aside0.mk hres
  have HC := Aside0.mk hc
  clear hres hnk hc
  rcases hk1 with hk1 | hk1
  ·have b1 : (e.f0 != 1) = false := bne_eq_false_iff_eq.mpr hk1
   clear hk1
   go_wp2_with (first | (at_lookup; refine lookup_set _ rfl _ _ rfl w.heap.size k S rfl ((HS.out.alloc _).alloc _) (tr e) HE.out rfl false HC.out ?_) | (at_mapUpdate; refine store_set _ rfl _ _ _ rfl w.heap.size k S rfl ((HS.out.alloc _).alloc _) (by unfold maxLen; omega) (tr e) HE.out rfl rfl ?_; intro w1 hS1 hg1; have G1 := Aside0.mk hg1; have S1 := Aside0.mk hS1; clear hg1 hS1))
   go_roundw
   case rel => exact PUT.out _ (.inr rfl) HRES.out _ S1.out (((HB.out.alloc (by omega) _).alloc (by simp; omega) _).grown G1.out (by simp; omega) (fun j hj => by cases hj; exact Nat.le_refl _)) (by have := G1.out.size; simp at this; omega)
   case measure => simp [intOf]; omega
  ·have b1 : (e.f0 != 1) = true := bne_iff_ne.mpr (by omega)
   have b3 : (e.f0 != 3) = false := bne_eq_false_iff_eq.mpr hk1
   clear hk1
   go_wp2_with (first | (at_lookup; refine lookup_set _ rfl _ _ rfl w.heap.size k S rfl ((HS.out.alloc _).alloc _) (tr e) HE.out rfl false HC.out ?_) | (at_mapUpdate; refine store_set _ rfl _ _ _ rfl w.heap.size k S rfl ((HS.out.alloc _).alloc _) (by unfold maxLen; omega) (tr e) HE.out rfl rfl ?_; intro w1 hS1 hg1; have G1 := Aside0.mk hg1; have S1 := Aside0.mk hS1; clear hg1 hS1))
   go_roundw
   case rel => exact PUT.out _ (.inr rfl) HRES.out _ S1.out (((HB.out.alloc (by omega) _).alloc (by simp; omega) _).grown G1.out (by simp; omega) (fun j hj => by cases hj; exact Nat.le_refl _)) (by have := G1.out.size; simp at this; omega)
   case measure => simp [intOf]; omega
theorem judge_Twice.calls (A0 : Option Addr) (c0 : Nat) (l0 : List S27) (r : Int) (w : World) (hr0 : Kd.C k27 w A0 l0.length l0) (hc0 : l0.length ≤ c0) (h : judge_Twice.f l0 = some r) :
  Calls Try.prog 10 #[.slice A0 l0.length c0] w fun e w' => e = .returned (.int .i64 r) ∧ Below w.heap.size w w' := by
 unfold judge_Twice.f at h
 split at h
 ·obtain rfl := Option.some.inj h
  exact twice_walk A0 c0 l0 w hr0 (by assumption)
 ·cases h

-- NOT PRINTED: function 24 (claims_Table_24)

-- NOT PRINTED: function 22 (claims_Table_22)

-- NOT PRINTED: function 14 (judge_Agreed)

-- NOT PRINTED: function 15 (judge_Claimants)
/-! ### grapevinelaw21_anchor: function 8 -/
/-! Rows of noughts: tables that nobody has claimed. -/
def z64 : List Value := List.replicate 64 (.int .i64 0)
def z128 : List Value := List.replicate 128 (.int .i64 0)
theorem z64_at (j : Nat) (v : Value) (h : z64[j]? = some v) : j < 64 ∧ v = .int .i64 0 := by
 unfold z64 at h
 rw [List.getElem?_replicate] at h
 split at h
 ·exact ⟨by assumption, (Option.some.inj h).symm⟩
 ·cases h
theorem z128_at (j : Nat) (v : Value) (h : z128[j]? = some v) : j < 128 ∧ v = .int .i64 0 := by
 unfold z128 at h
 rw [List.getElem?_replicate] at h
 split at h
 ·exact ⟨by assumption, (Option.some.inj h).symm⟩
 ·cases h
theorem z128_get (j : Nat) (h : j < 128) : z128.toArray[j]? = some (.int .i64 0) := by
 rw [List.getElem?_toArray]
 unfold z128
 rw [List.getElem?_replicate, if_pos h]
theorem neq64 (w : World) : (binOp .neq 44 (.agg z64.toArray) (.agg z64.toArray)).run Try.prog w = .ok (.bool false) w := by kernel_rfl
def zeros (n : Nat) : Array Value := Array.replicate n (.int .i64 0)
theorem make2 (w : World) : (Instr.makeSlice 34 (.int .i64 2) (.int .i64 2)).run Try.prog w = .ok (.slice (some ⟨w.heap.size, 0, none⟩) 2 2) (w.alloc (.cells (zeros 256) 46)) := by kernel_rfl
theorem make1 (w : World) : (Instr.makeSlice 34 (.int .i64 1) (.int .i64 1)).run Try.prog w = .ok (.slice (some ⟨w.heap.size, 0, none⟩) 1 1) (w.alloc (.cells (zeros 128) 46)) := by kernel_rfl
theorem zeros_cell {w : World} {g n t : Nat} (h : w.heap[g]? = some (.cells (zeros n) t (0, 0))) (j : Nat) (hj : j < n) : w.cell? ⟨g, j, none⟩ = some (.int .i64 0) := by
 rw [blk_cell h j]
 unfold zeros
 rw [Array.getElem?_replicate, if_pos hj]
/-- Cells that lie one behind the other are loaded as one value. -/
theorem run_load_list {P : Program} (w : World) (A : Addr) (ty : TypeId) (vs : List Value) (d : TypeDesc) (hc : ∀ j v, vs[j]? = some v → w.cell? (A.add j) = some v)
  (hu : P.underlying ty = some d) (hd : (match d with | .struct _ | .array _ _ => true | _ => false) = true) (hi : (P.info? ty).map (·.size) = some vs.length) : (loadVar ty A).run P w = .ok (.agg vs.toArray) w := by
 have hl : (loadCells A vs.length).run P w = .ok vs.toArray w := run_loadCells_list (P := P) w A vs hc
 cases hq : P.info? ty with
 | none => simp [hq] at hi
 | some i =>
  have hs : i.size = vs.length := by simpa [hq] using hi
  have hagg : (isAgg ty).run P w = .ok true w := by
   unfold isAgg
   rw [Sem.run_bind, run_underlying hu w]
   cases d <;> simp_all
  simp [loadVar, Sem.run_bind, hagg, sizeOf, typeInfo, hq, hs, hl]
theorem load_list {P : Program} {ops : Array Oper} {rest : List Oper} {o : Oper} {a : Act} {w : World} {Q : Exit → Act → World → Prop} (hgd : o.guard = none) (ty : TypeId) (x : Operand) (ho : o.op = .load ty x)
  (A : Addr) (hx : a.eval x = .pointer (some A)) (vs : List Value) (d : TypeDesc) (hc : ∀ j v, vs[j]? = some v → w.cell? (A.add j) = some v)
  (hu : P.underlying ty = some d) (hd : (match d with | .struct _ | .array _ _ => true | _ => false) = true) (hi : (P.info? ty).map (·.size) = some vs.length)
  (h : wpList P ops Q rest (a.put o.dst (.agg vs.toArray)) w) : wpList P ops Q (o :: rest) a w :=
 wpList_plain hgd fun _ hK => by
  unfold Oper.wp execOp
  simp only [ho, hx, Instr.loadAt, Instr.sureAddr, Sem.run_bind, Sem.run_pure, Result.andThen_ok, run_load_list w A ty vs d hc hu hd hi]
  exact hK _ _ h
theorem quiet_load_list {P : Program} {ops : Array Oper} {C : World → Prop} {Q : Act → Prop} {a : Act} {o : Oper} {rest : List Oper} (hgd : o.guard = none) (ty : TypeId) (x : Operand) (ho : o.op = .load ty x)
  (A : Addr) (hx : a.eval x = .pointer (some A)) (vs : List Value) (d : TypeDesc) (hc : ∀ W, C W → ∀ j v, vs[j]? = some v → W.cell? (A.add j) = some v)
  (hu : P.underlying ty = some d) (hd : (match d with | .struct _ | .array _ _ => true | _ => false) = true) (hi : (P.info? ty).map (·.size) = some vs.length)
  (h : wpQuiet P ops C Q rest (a.put o.dst (.agg vs.toArray))) : wpQuiet P ops C Q (o :: rest) a :=
 wpQuiet_step fun K hK => by
  rw [if_pos (by simp [Region.wanted, hgd])]
  refine ⟨_, fun w hC => ?_, hK _ h⟩
  unfold Oper.quietAt execOp
  simp only [ho, hx, Instr.loadAt, Instr.sureAddr, Sem.run_bind, Sem.run_pure, Result.andThen_ok, run_load_list w A ty vs d (hc w hC) hu hd hi]
  exact ⟨rfl, rfl⟩
theorem add_off (g o j : Nat) : (⟨g, o, none⟩ : Addr).add j = ⟨g, o + j, none⟩ := by unfold Addr.add; split <;> simp_all
set_option maxRecDepth 100000 in
/-- The closure: are a table's owners others than the first one's? -/
theorem unlike (B g : Nat) (w : World) (hB : w.cell? ⟨B, 0, none⟩ = some (.slice (some ⟨g, 0, none⟩) 2 2)) (hg : w.heap[g]? = some (.cells (zeros 256) 46 (0, 0))) :
  Calls Try.prog 23 #[.agg z128.toArray, .pointer (some ⟨B, 0, none⟩)] w fun e w' => e = .returned (.bool false) ∧ Below w.heap.size w w' := by
 have hBl := World.block_lt_of_cell? w _ hB
 have HG := Aside0.mk hg
 clear hg
 go_enter Try.func23, Try.ntmps23
 go_wp2_with fail
 have HN := Aside0.mk (blk_new w (.cells z128.toArray 46))
 have HG2 := Aside0.mk (blk_alloc HG.out (.cells z128.toArray 46))
 have hB2 : (w.alloc (.cells z128.toArray 46)).cell? ⟨B, 0, none⟩ = some (.slice (some ⟨g, 0, none⟩) 2 2) := ((below_alloc (Below.refl w.heap.size w) _).cell hBl).trans hB
 obtain ⟨W, hW⟩ : ∃ W, w.alloc (.cells z128.toArray 46) = W := ⟨_, rfl⟩
 have HBL := Aside0.mk (below_alloc (Below.refl w.heap.size w) (.cells z128.toArray 46))
 rw [hW] at HN HG2 hB2 HBL ⊢
 clear hW hB
 refine wp_region_quiet_lit (by kernel_rfl) (by kernel_rfl) ?_
 quiet_step (fail)
 refine quiet_load_list rfl 44 _ rfl ⟨w.heap.size, 0, none⟩ rfl z64 _ ?_ Try.underlying44 rfl (by kernel_rfl) ?_
 ·rintro _ ⟨n, rfl⟩ j v hv
  obtain ⟨hj, rfl⟩ := z64_at j v hv
  rw [add_off, Nat.zero_add]
  exact (blk_cell HN.out j).trans (z128_get j (by omega))
 quiet_step (fail)
 quiet_step (fail)
 quiet_step (fail)
 refine quiet_load_list rfl 44 _ rfl ⟨g, 0, none⟩ rfl z64 _ ?_ Try.underlying44 rfl (by kernel_rfl) ?_
 ·rintro _ ⟨n, rfl⟩ j v hv
  obtain ⟨hj, rfl⟩ := z64_at j v hv
  rw [add_off, Nat.zero_add]
  exact zeros_cell (w := W.drewN n) HG2.out j (by omega)
 have q := fun w => neq64 w
 quiet_step (fail)
 quiet_step (fail)
 refine wpQuiet_nil ?_
 intro _ hw'
 obtain ⟨nq, hw''⟩ := hw'
 subst hw''
 go_wp2
 go_ret
 exact ⟨rfl, pw_below_drewN HBL.out nq⟩
def fnv (B : Nat) : Value := .func (.func 23) #[] #[.pointer (some ⟨B, 0, none⟩)]
def IxRel (w0 : World) (i : Value) (wr : World) : Prop := ∃ k : Nat, k ≤ 2 ∧ i = .int .i64 k ∧ Below w0.heap.size w0 wr
set_option maxRecDepth 100000 in
set_option maxHeartbeats 1000000 in
theorem index_none (B g : Nat) (w : World) (hB : w.cell? ⟨B, 0, none⟩ = some (.slice (some ⟨g, 0, none⟩) 2 2)) (hg : w.heap[g]? = some (.cells (zeros 256) 46 (0, 0))) :
  Calls Try.prog 24 #[.slice (some ⟨g, 0, none⟩) 2 2, fnv B] w fun e w' => e = .returned (.int .i64 (-1)) ∧ Below w.heap.size w w' := by
 unfold fnv
 have HB0 := Aside0.mk hB
 have HG := Aside0.mk hg
 have hgl := blk_lt hg
 clear hg hB
 go_enter Try.func24, Try.ntmps24
 go_wp2
 go_loopw [8] (fun i wr => IxRel w i wr) (fun i _ => 2 - (intOf i).toNat)
 case atStart => exact ⟨0, by omega, rfl, Below.refl _ _⟩
 case round =>
  obtain ⟨k, hk, rfl, hb⟩ := hrel
  have HB := Aside0.mk hb
  clear hb
  by_cases hlt : k < 2
  rotate_left
  ·go_wp2
   go_ret
   exact ⟨rfl, HB.out⟩
  have HGR := Aside0.mk (blk_below HG.out HB.out)
  have HBR := Aside0.mk (pw_cell_below HB.out HB0.out)
  have hbnd : k * 128 + 128 ≤ 256 := by omega
  go_wp2_with (first | (refine load_list rfl 46 _ rfl ⟨g, k * 128, none⟩ rfl z128 _ ?_ Try.underlying46 rfl (by kernel_rfl) ?_; (intro j v hv; obtain ⟨hj, rfl⟩ := z128_at j v hv; rw [add_off]; exact zeros_cell HGR.out _ (by omega))) | (go_at_call 23; go_loud (refine (unlike B g _ HBR.out HGR.out).mono ?_; rintro e w1 ⟨rfl, hb1⟩; have HB1 := Aside0.mk (below_step HB.out hb1); clear hb1)))
  go_roundw
  case rel => exact ⟨k + 1, by omega, by go_num, HB1.out⟩
  case measure => simp [intOf]; omega
set_option maxRecDepth 100000 in
theorem contains_none (B g : Nat) (w : World) (hB : w.cell? ⟨B, 0, none⟩ = some (.slice (some ⟨g, 0, none⟩) 2 2)) (hg : w.heap[g]? = some (.cells (zeros 256) 46 (0, 0))) :
  Calls Try.prog 22 #[.slice (some ⟨g, 0, none⟩) 2 2, fnv B] w fun e w' => e = .returned (.bool false) ∧ Below w.heap.size w w' := by
 have HB0 := Aside0.mk hB
 have HG := Aside0.mk hg
 clear hg hB
 go_enter Try.func22, Try.ntmps22
 go_wp2_with (go_at_call 24; go_loud (refine (index_none B g _ HB0.out HG.out).mono ?_; rintro e w1 ⟨rfl, hb1⟩; have HB1 := Aside0.mk hb1; clear hb1))
 go_ret
 exact ⟨rfl, HB1.out⟩
set_option maxRecDepth 100000 in
theorem agreed_zero (g : Nat) (w : World) (hg : w.heap[g]? = some (.cells (zeros 256) 46 (0, 0))) :
  Calls Try.prog 14 #[.slice (some ⟨g, 0, none⟩) 2 2] w fun e w' => e = .returned (.bool true) ∧ Below w.heap.size w w' := by
 have hmf : ∀ (fn : Fn) (first cap : Array Value) (w : World), (Instr.makeFunc fn first cap).run Try.prog w = .ok (.func fn first cap) w := fun _ _ _ _ => rfl
 have HG := Aside0.mk hg
 clear hg
 go_enter Try.func14, Try.ntmps14
 go_wp2_with (go_at_call 22; go_loud (refine (contains_none w.heap.size g _ (by simp) (blk_alloc HG.out _)).mono ?_; rintro e w1 ⟨rfl, hb1⟩; have HB1 := Aside0.mk (below_step (below_alloc (Below.refl _ w) _) hb1); clear hb1))
 go_ret
 exact ⟨rfl, HB1.out⟩
set_option maxRecDepth 100000 in
set_option maxHeartbeats 1000000 in
theorem claimants_zero (g b : Nat) (w : World) (hg : w.heap[g]? = some (.cells (zeros 128) 46 (0, 0))) (hb : w.cell? ⟨b, 0, none⟩ = some (.int .i64 1)) :
  Calls Try.prog 15 #[.slice (some ⟨b, 0, none⟩) 1 1, .slice (some ⟨g, 0, none⟩) 1 1, .int .i64 0] w fun e w' => e = .returned (.slice none 0 0) ∧ Below w.heap.size w w' := by
 have h0 := zeros_cell hg 0 (by omega)
 go_enter Try.func15, Try.ntmps15
 go_wp2
 go_loopw [7, 14] (fun v i wr => v = .slice none 0 0 ∧ IxRel w i wr) (fun _ i _ => 2 - (intOf i).toNat)
 case atStart => exact ⟨rfl, 0, by omega, rfl, Below.refl _ _⟩
 case round =>
  obtain ⟨rfl, k, hk, rfl, hbw⟩ := hrel
  by_cases hlt : k < 1
  rotate_left
  ·go_wp2
   go_ret
   exact ⟨rfl, hbw⟩
  obtain rfl : k = 0 := by omega
  have h1 := pw_cell_below hbw h0
  have h2 := pw_cell_below hbw hb
  have HB := Aside0.mk hbw
  clear hbw h0 hb
  go_wp2
  go_quiet (fail)
  go_wp2
  go_roundw
  case rel => exact ⟨rfl, 1, by omega, rfl, pw_below_drewN HB.out nq⟩
  case measure => simp [intOf]
/-! The anchor's own two events. -/
def ev1 : S27 := ⟨1, 5, 7, 3, []⟩
def ev2 : S27 := ⟨1, 5, 8, 3, []⟩
abbrev evCells : Array Value := #[.int .i64 1, .int .i64 5, .int .i64 7, .int .i64 3, .slice none 0 0, .int .i64 1, .int .i64 5, .int .i64 8, .int .i64 3, .slice none 0 0]
theorem nil_row (w : World) : (Kd.int .i64).C w none 0 [] := ⟨rfl, by omega, fun h => absurd h (by omega)⟩
theorem ev_row {w : World} {g : Nat} (h : w.heap[g]? = some (.cells evCells 27 (0, 0))) (l : List S27) (hl : l = [ev1, ev2] ∨ l = [ev1]) : Kd.C k27 w (some ⟨g, 0, none⟩) l.length l := by
 have c : ∀ j v, evCells[j]? = some v → w.cell? ⟨g, j, none⟩ = some v := fun j v hv => (blk_cell h j).trans hv
 have K1 : k27.K w ev1 [.int .i64 1, .int .i64 5, .int .i64 7, .int .i64 3, .slice none 0 0] := k27_mk w ev1 (c4 := 0) (by simp [ev1]) (nil_row w)
 have K2 : k27.K w ev2 [.int .i64 1, .int .i64 5, .int .i64 8, .int .i64 3, .slice none 0 0] := k27_mk w ev2 (c4 := 0) (by simp [ev2]) (nil_row w)
 have f1 : ∀ i u, ([.int .i64 1, .int .i64 5, .int .i64 7, .int .i64 3, .slice none 0 0] : List Value)[i]? = some u → w.cell? ((⟨g, 0, none⟩ : Addr).add (0 * 5 + i)) = some u := by
  intro i u hu
  rw [add_off, Nat.zero_add, Nat.zero_mul, Nat.zero_add]
  refine c i u ?_
  match i, hu with
  | 0, hu | 1, hu | 2, hu | 3, hu | 4, hu => exact hu
  | n + 5, hu => simp at hu
 have f2 : ∀ i u, ([.int .i64 1, .int .i64 5, .int .i64 8, .int .i64 3, .slice none 0 0] : List Value)[i]? = some u → w.cell? ((⟨g, 0, none⟩ : Addr).add (1 * 5 + i)) = some u := by
  intro i u hu
  rw [add_off, Nat.zero_add, Nat.one_mul]
  refine c (5 + i) u ?_
  match i, hu with
  | 0, hu | 1, hu | 2, hu | 3, hu | 4, hu => exact hu
  | n + 5, hu => simp at hu
 refine ⟨rfl, by rcases hl with rfl | rfl <;> decide, fun _ => ⟨_, rfl, fun j p hp => ?_⟩⟩
 match j with
 | 0 =>
  obtain rfl : p = ev1 := by rcases hl with rfl | rfl <;> exact (Option.some.inj hp).symm
  exact ⟨_, rfl, K1, f1⟩
 | 1 =>
  obtain rfl : p = ev2 := by
   rcases hl with rfl | rfl
   ·exact (Option.some.inj hp).symm
   ·cases hp
  exact ⟨_, rfl, K2, f2⟩
 | n + 2 => rcases hl with rfl | rfl <;> simp at hp
def grapevinelaw21_anchor.f : Option Bool := some true
theorem twice_both : judge_Twice.f [ev1, ev2] = some 1 := by decide +kernel
theorem twice_one : judge_Twice.f [ev1] = some (-1) := by decide +kernel
set_option maxRecDepth 100000 in
set_option maxHeartbeats 2000000 in
theorem anchor_walk (w : World) : Calls Try.prog 8 #[] w fun e w' => e = .returned (.bool true) ∧ Below w.heap.size w w' := by
 have mk2 := fun w => make2 w
 have mk1 := fun w => make1 w
 go_enter Try.func8, Try.ntmps8
 have T1 := fun (W : World) (h : W.heap[w.heap.size]? = some (.cells evCells 27 (0, 0))) => (show Calls Try.prog 10 #[.slice (some ⟨w.heap.size, 0, none⟩) 2 2] W fun e w' => e = .returned (.int .i64 1) ∧ Below W.heap.size W w' from judge_Twice.calls (some ⟨w.heap.size, 0, none⟩) 2 [ev1, ev2] 1 W (ev_row h _ (.inl rfl)) (Nat.le_refl _) twice_both)
 have T2 := fun (W : World) (h : W.heap[w.heap.size]? = some (.cells evCells 27 (0, 0))) => (show Calls Try.prog 10 #[.slice (some ⟨w.heap.size, 0, none⟩) 1 2] W fun e w' => e = .returned (.int .i64 (-1)) ∧ Below W.heap.size W w' from judge_Twice.calls (some ⟨w.heap.size, 0, none⟩) 2 [ev1] (-1) W (ev_row h _ (.inr rfl)) (by decide) twice_one)
 have T1' := Aside0.mk T1
 have T2' := Aside0.mk T2
 clear T1 T2
 go_wp2_with (first | (go_at_call 10; with_reducible refine (T1'.out _ (blk_new w _)).mono ?_; rintro e w1 ⟨rfl, hb1⟩; have H1 := Aside0.mk (blk_below (blk_new w _) hb1); have HB1 := Aside0.mk (below_step (below_alloc (Below.refl _ w) _) hb1); clear hb1) | (go_at_call 10; with_reducible refine (T2'.out _ H1.out).mono ?_; rintro e w2 ⟨rfl, hb2⟩; have H2 := Aside0.mk (blk_below H1.out hb2); have HB2 := Aside0.mk (below_step HB1.out hb2); clear hb2) | (go_at_call 14; go_loud (refine (agreed_zero w2.heap.size _ (blk_new w2 _)).mono ?_; rintro e w3 ⟨rfl, hb3⟩; have HB3 := Aside0.mk (below_step (below_alloc HB2.out _) hb3); clear hb3)) | (go_at_call 15; go_loud (refine (claimants_zero (w3.heap.size + 1) w3.heap.size _ (heap_alloc2_new w3 _ _) ((blk_cell (heap_alloc2_old w3 (.cells #[.int .i64 1] 3) _) 0).trans rfl)).mono ?_; rintro e w4 ⟨rfl, hb4⟩; have HB4 := Aside0.mk (below_step (below_alloc (below_alloc HB3.out _) _) hb4); clear hb4)))
 go_ret
 exact ⟨rfl, HB4.out⟩
theorem grapevinelaw21_anchor.calls (r : Bool) (w : World) (h : grapevinelaw21_anchor.f = some r) :
  Calls Try.prog 8 #[] w fun e w' => e = .returned (.bool r) ∧ Below w.heap.size w w' := by
 obtain rfl : true = r := Option.some.inj h
 exact anchor_walk w
/-! ### grapevinelaw21_small: function 9 -/
def grapevinelaw21_small.l0 : Nat → List (S27) → List (S27) → Int → Int → Option (Bool)
 | 0, _, _, _, _ => none
 | k + 1, x0, x5, x6, x7 => if x7 < x6 then (if 0 ≤ x7 then (if x7 < (x5.length : Int) then (if (((rd_T27 x5 x7).f4).length : Int) > 30 then (some false) else (grapevinelaw21_small.l0 k x0 x5 x6 (wrap64 (x7 + 1)))) else (none)) else (none)) else (some (decide ((x0.length : Int) ≤ 60)))
def grapevinelaw21_small.f (k : Nat) (l0 : List (S27)) : Option (Bool) := grapevinelaw21_small.l0 k l0 l0 (l0.length : Int) 0
theorem grapevinelaw21_small.mono_l : ∀ k, (∀ y0 y1 y2 y3, LeO (grapevinelaw21_small.l0 k y0 y1 y2 y3) (grapevinelaw21_small.l0 (k + 1) y0 y1 y2 y3))
 | 0 => fun _ _ _ _ r h => by simp [grapevinelaw21_small.l0] at h
 | k + 1 => by
  have ih0 := grapevinelaw21_small.mono_l k
  ·intro y0 y1 y2 y3
   unfold grapevinelaw21_small.l0
   repeat' first
   | (with_reducible exact ih0 _ _ _ _)
   | (with_reducible exact LeO.refl _)
   | (with_reducible exact LeO.none _)
   | (with_reducible refine LeO.ite ?_ ?_)
   | (with_reducible refine LeO.bind ?_ (fun _ => ?_))
   | exact ih0 _ _ _ _
   | exact LeO.none _
   | refine LeO.ite ?_ ?_
   | refine LeO.bind ?_ (fun _ => ?_)
theorem grapevinelaw21_small.mono : ∀ a0 k, LeO (grapevinelaw21_small.f k a0) (grapevinelaw21_small.f (k + 1) a0) := by
 intro a0 k
 have ih0 := grapevinelaw21_small.mono_l k
 unfold grapevinelaw21_small.f
 repeat' first
   | (with_reducible exact ih0 _ _ _ _)
   | (with_reducible exact LeO.refl _)
   | (with_reducible exact LeO.none _)
   | (with_reducible refine LeO.ite ?_ ?_)
   | (with_reducible refine LeO.bind ?_ (fun _ => ?_))
   | exact ih0 _ _ _ _
   | exact LeO.none _
   | refine LeO.ite ?_ ?_
   | refine LeO.bind ?_ (fun _ => ?_)
set_option maxHeartbeats 8000000 in
set_option maxRecDepth 100000 in
theorem grapevinelaw21_small.calls (k : Nat) (A0 : Option Addr) (c0 : Nat) (l0 : List (S27)) (r : Bool) (w : World) (hr0 : Kd.C k27 w A0 l0.length l0) (hc0 : l0.length ≤ c0) (h : grapevinelaw21_small.f k l0 = some r) :
  Calls Try.prog 9 #[.slice A0 l0.length c0] w fun e w' => e = .returned (.bool r) ∧ Below w.heap.size w w' := by
 have hu27 := Try.underlying27
 have HR0 := Aside0.mk hr0
 have HC0 := Aside0.mk hc0
 clear hr0 hc0
 have HB := Aside0.mk (Below.refl w.heap.size w)
 have H : (grapevinelaw21_small.l0 k l0 l0 (l0.length : Int) 0) = some r := h
 clear h
 have H' := Aside0.mk H
 clear H
 go_enter Try.func9, Try.ntmps9
 go_wp2
 go_loopg [7] k (fun kq v7 w' => ∃ (x7_1 : Int), v7 = .int .i64 x7_1 ∧ Aside0 (grapevinelaw21_small.l0 kq l0 l0 (l0.length : Int) x7_1 = some r) ∧ Aside0 (kq ≤ k) ∧ Aside0 (Below w.heap.size w w'))
 case atStart => exact ⟨(0), (by first | rfl | (simp; done) | (simp [*]; done)), H', ⟨Nat.le_refl _⟩, ⟨by repeat (first | (with_reducible first | exact HB.out | apply below_alloc | apply pw_below_drewN | apply below_drew1) | exact HB.out)⟩⟩
 case round =>
  clear H'
  obtain ⟨x7_1, rfl, HA, HK1, HB⟩ := hrel
  cases gk with
  | zero => exact absurd HA.out (by simp [grapevinelaw21_small.l0])
  | succ k1 =>
   have H := HA.out
   clear HA
   simp only [grapevinelaw21_small.l0] at H
   by_cases c2 : x7_1 < (l0.length : Int)
   rotate_left
   ·rw [if_neg c2] at H
    have c2b0 : decide (x7_1 < (l0.length : Int)) = false := decide_eq_false c2
    clear c2
    obtain rfl := Option.some.inj H
    go_wp2
    go_ret
    exact ⟨by first | rfl | (simp [errW_none, errW_some] <;> rfl) | (simp [*, errW_none, errW_some] <;> rfl), by repeat (first | (with_reducible first | exact HB.out | apply below_alloc | apply pw_below_drewN | apply below_drew1) | exact HB.out)⟩
   rw [if_pos c2] at H
   have c2b0 : decide (x7_1 < (l0.length : Int)) = true := decide_eq_true c2
   clear c2
   by_cases c3 : 0 ≤ x7_1
   rotate_left
   ·rw [if_neg c3] at H
    exact absurd H (by simp)
   rw [if_pos c3] at H
   have c3b0 : decide (0 ≤ x7_1) = true := decide_eq_true c3
   clear c3
   by_cases c4 : x7_1 < (l0.length : Int)
   rotate_left
   ·rw [if_neg c4] at H
    exact absurd H (by simp)
   rw [if_pos c4] at H
   have c4b0 : decide (x7_1 < (l0.length : Int)) = true := decide_eq_true c4
   clear c4
   by_cases c5 : (((rd_T27 l0 x7_1).f4).length : Int) > 30
   ·rw [if_pos c5] at H
    have c5b0 : decide (30 < (((rd_T27 l0 x7_1).f4).length : Int)) = true := decide_eq_true c5
    have c5b1 : decide (30 < ((rd_T27 l0 x7_1).f4).length) = true := decide_eq_true (by omega)
    clear c5
    obtain rfl := Option.some.inj H
    have p101 : 0 ≤ (x7_1 : Int) := of_decide_eq_true (by first | (with_reducible assumption) | assumption)
    have q101 : x7_1 < (l0.length : Int) := of_decide_eq_true (by first | (with_reducible assumption) | assumption)
    obtain ⟨ad101, A101_4, c101_4, e101, hx101_0, hx101_1, hx101_2, hx101_3, hx101_4, hl101_4, hi101_4⟩ := at_T27 HR0.out x7_1 p101 q101
    cases e101
    replace hx101_0 := (HB.out.cell (World.block_lt_of_cell? w _ hx101_0)).trans hx101_0
    replace hx101_1 := (HB.out.cell (World.block_lt_of_cell? w _ hx101_1)).trans hx101_1
    replace hx101_2 := (HB.out.cell (World.block_lt_of_cell? w _ hx101_2)).trans hx101_2
    replace hx101_3 := (HB.out.cell (World.block_lt_of_cell? w _ hx101_3)).trans hx101_3
    replace hx101_4 := (HB.out.cell (World.block_lt_of_cell? w _ hx101_4)).trans hx101_4
    have HR101_4 := Aside0.mk hi101_4
    have HC101_4 := Aside0.mk hl101_4
    clear hi101_4 hl101_4
    replace p101 := eq_true p101
    replace q101 := eq_true q101
    go_wp2_with (first | ((with_reducible refine gate_dst (N := 4) rfl ?_); refine box_event ?hg (N := 4) ?hd (cs := #[.int .i64 0, .int .i64 0, .int .i64 0, .int .i64 0, .slice none 0 0]) (t := 27) ?hr ?_; (case hd => rfl); (case hg => rfl); (case hr => first | (go_simp; done) | (go_simp; rfl)); intro gb102 hg w6 hbox hb; have n0_ := Aside0.mk (below_step (by repeat (first | (with_reducible first | exact HB.out | apply below_alloc | apply pw_below_drewN | apply below_drew1) | exact HB.out)) hb); have n1_ := Aside0.mk (hbox); have n2_ := Aside0.mk ((by rw [hg]; exact (below_size (by repeat (first | (with_reducible first | exact HB.out | apply below_alloc | apply pw_below_drewN | apply below_drew1) | exact HB.out))) : w.heap.size ≤ gb102)); have n3_ := Aside0.mk ((by rw [hg]; exact (below_size (by repeat (first | (with_reducible first | exact HB.out | apply below_alloc | apply pw_below_drewN | apply below_drew1) | exact HB.out))) : w.heap.size ≤ gb102)); clear HB; have HB := n0_; have BK102 := n1_; have GW102 := n2_; have GE102 := n3_; clear n0_ n1_ n2_ n3_; clear hb hbox hg; have hcz7_0 : w6.cell? ⟨gb102, 0, none⟩ = some (.int .i64 0) := (blk_cell BK102.out 0).trans rfl; have hcz7_1 : w6.cell? ⟨gb102, 1, none⟩ = some (.int .i64 0) := (blk_cell BK102.out 1).trans rfl; have hcz7_2 : w6.cell? ⟨gb102, 2, none⟩ = some (.int .i64 0) := (blk_cell BK102.out 2).trans rfl; have hcz7_3 : w6.cell? ⟨gb102, 3, none⟩ = some (.int .i64 0) := (blk_cell BK102.out 3).trans rfl; have hcz7_4 : w6.cell? ⟨gb102, 4, none⟩ = some (.slice none 0 0) := (blk_cell BK102.out 4).trans rfl; have hfz7_0 := blk_frozen BK102.out 0; have hfz7_1 := blk_frozen BK102.out 1; have hfz7_2 := blk_frozen BK102.out 2; have hfz7_3 := blk_frozen BK102.out 3; have hfz7_4 := blk_frozen BK102.out 4))
    go_ret
    exact ⟨by first | rfl | (simp [errW_none, errW_some] <;> rfl) | (simp [*, errW_none, errW_some] <;> rfl), by repeat (first | (with_reducible first | exact HB.out | apply below_alloc | apply pw_below_drewN | apply below_drew1 | refine below_set ?_ GE102.out) | exact HB.out)⟩
   rw [if_neg c5] at H
   have c5b0 : decide (30 < (((rd_T27 l0 x7_1).f4).length : Int)) = false := decide_eq_false c5
   have c5b1 : decide (30 < ((rd_T27 l0 x7_1).f4).length) = false := decide_eq_false (by omega)
   clear c5
   have H' := Aside0.mk H
   clear H
   have p101 : 0 ≤ (x7_1 : Int) := of_decide_eq_true (by first | (with_reducible assumption) | assumption)
   have q101 : x7_1 < (l0.length : Int) := of_decide_eq_true (by first | (with_reducible assumption) | assumption)
   obtain ⟨ad101, A101_4, c101_4, e101, hx101_0, hx101_1, hx101_2, hx101_3, hx101_4, hl101_4, hi101_4⟩ := at_T27 HR0.out x7_1 p101 q101
   cases e101
   replace hx101_0 := (HB.out.cell (World.block_lt_of_cell? w _ hx101_0)).trans hx101_0
   replace hx101_1 := (HB.out.cell (World.block_lt_of_cell? w _ hx101_1)).trans hx101_1
   replace hx101_2 := (HB.out.cell (World.block_lt_of_cell? w _ hx101_2)).trans hx101_2
   replace hx101_3 := (HB.out.cell (World.block_lt_of_cell? w _ hx101_3)).trans hx101_3
   replace hx101_4 := (HB.out.cell (World.block_lt_of_cell? w _ hx101_4)).trans hx101_4
   have HR101_4 := Aside0.mk hi101_4
   have HC101_4 := Aside0.mk hl101_4
   clear hi101_4 hl101_4
   replace p101 := eq_true p101
   replace q101 := eq_true q101
   go_wp2_with (first | ((with_reducible refine gate_dst (N := 4) rfl ?_); refine box_event ?hg (N := 4) ?hd (cs := #[.int .i64 0, .int .i64 0, .int .i64 0, .int .i64 0, .slice none 0 0]) (t := 27) ?hr ?_; (case hd => rfl); (case hg => rfl); (case hr => first | (go_simp; done) | (go_simp; rfl)); intro gb102 hg w8 hbox hb; have n0_ := Aside0.mk (below_step (by repeat (first | (with_reducible first | exact HB.out | apply below_alloc | apply pw_below_drewN | apply below_drew1) | exact HB.out)) hb); have n1_ := Aside0.mk (hbox); have n2_ := Aside0.mk ((by rw [hg]; exact (below_size (by repeat (first | (with_reducible first | exact HB.out | apply below_alloc | apply pw_below_drewN | apply below_drew1) | exact HB.out))) : w.heap.size ≤ gb102)); have n3_ := Aside0.mk ((by rw [hg]; exact (below_size (by repeat (first | (with_reducible first | exact HB.out | apply below_alloc | apply pw_below_drewN | apply below_drew1) | exact HB.out))) : w.heap.size ≤ gb102)); clear HB; have HB := n0_; have BK102 := n1_; have GW102 := n2_; have GE102 := n3_; clear n0_ n1_ n2_ n3_; clear hb hbox hg; have hcz9_0 : w8.cell? ⟨gb102, 0, none⟩ = some (.int .i64 0) := (blk_cell BK102.out 0).trans rfl; have hcz9_1 : w8.cell? ⟨gb102, 1, none⟩ = some (.int .i64 0) := (blk_cell BK102.out 1).trans rfl; have hcz9_2 : w8.cell? ⟨gb102, 2, none⟩ = some (.int .i64 0) := (blk_cell BK102.out 2).trans rfl; have hcz9_3 : w8.cell? ⟨gb102, 3, none⟩ = some (.int .i64 0) := (blk_cell BK102.out 3).trans rfl; have hcz9_4 : w8.cell? ⟨gb102, 4, none⟩ = some (.slice none 0 0) := (blk_cell BK102.out 4).trans rfl; have hfz9_0 := blk_frozen BK102.out 0; have hfz9_1 := blk_frozen BK102.out 1; have hfz9_2 := blk_frozen BK102.out 2; have hfz9_3 := blk_frozen BK102.out 3; have hfz9_4 := blk_frozen BK102.out 4))
   go_roundg k1
   case measure => have := HK1.out; omega
   case rel => exact ⟨(wrap64 (x7_1 + 1)), (by first | rfl | (simp; done) | (simp [*]; done)), H', ⟨by have := HK1.out; omega⟩, ⟨by repeat (first | (with_reducible first | exact HB.out | apply below_alloc | apply pw_below_drewN | apply below_drew1 | refine below_set ?_ GE102.out) | exact HB.out)⟩⟩
end Go.Proofs.Ytcpiccgnaecdkaa.QJudgeTwice
