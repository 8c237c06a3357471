/- Lemmas for the proof. -/
import Derived.WalkKit
import Derived.WalkLawsBesides
import Derived.WalkSpells
import Derived.BigQuiet
import Derived.Deep.QuietTactic
import Derived.Lib.Hide
import Derived.StillTailTactics
import Derived.RangeFuncNested
import Derived.RangeFuncBound
import Derived.RangeFuncCalls
import Derived.RangeFuncLeaves
import Derived.Shelf.Abstract
import Derived.Shelf.RegionOpen
import Derived.OwnWalkIn
import Derived.TacticsInMore
import Derived.LoopNIn
import Derived.LoopIn
import Derived.OrdersIn
import Derived.OrdersHeld
import Derived.Great.BuildSlice
import Derived.Maps.AppendAt
import Derived.Laws.OwnMore
import Derived.Deep.MidRow
import Derived.ChangeKeysEq
import Derived.OpenShut
import Derived.ProofKit
import Derived.Test.YtnmdjggdgakeoaaGreatProg
import Derived.Deep.OwnRows
set_option maxRecDepth 100000
set_option maxHeartbeats 16000000
set_option linter.unusedVariables false
set_option linter.unusedSimpArgs false
set_option linter.unusedSectionVars false
namespace Go.Proofs.YtnmdjggdgakeoaaGreat
open Go Go.RowKit
universe u
theorem gA {α : Type u} {l : List α} {i : Nat} (h : i < l.toArray.size) : l.toArray[i] = l[i]'h := rfl
theorem gS {α : Type u} {a : α} {l : List α} {i : Nat} {h : i + 1 < (a :: l).length} : (a :: l)[i + 1] = l[i]'(Nat.lt_of_succ_lt_succ h) := rfl
theorem gZ {α : Type u} {a : α} {l : List α} {h : 0 < (a :: l).length} : (a :: l)[0] = a := rfl
theorem sA {α : Type u} {l : List α} {i : Nat} {a : α} : l.toArray.setIfInBounds i a = (l.set i a).toArray := List.setIfInBounds_toArray ..
theorem sZ {α : Type u} {x a : α} {l : List α} : (x :: l).set 0 a = a :: l := rfl
theorem sS {α : Type u} {x a : α} {l : List α} {n : Nat} : (x :: l).set (n + 1) a = x :: l.set n a := rfl
theorem ret_i {k : IntKind} {a b : Int} (h : a = b) : Ending.returned (.int k a) = .returned (.int k b) := by rw [h]
theorem vint {k : IntKind} {a b : Int} (h : a = b) : Value.int k a = .int k b := by rw [h]
theorem u8x {x y : Int} {a b : Nat} (hx : x = a) (hy : y = b) (ha : a < 256) (hb : b < 256) : bits .xor .u8 x y = ((a ^^^ b : Nat) : Int) := by
 subst hx; subst hy; exact u8_xor_nat a b ha hb
theorem u8o {x y : Int} {a b : Nat} (hx : x = a) (hy : y = b) (ha : a < 256) (hb : b < 256) : bits .or .u8 x y = ((a ||| b : Nat) : Int) := by
 subst hx; subst hy; exact u8_or_nat a b ha hb
theorem u8a1 (y : Nat) (hy : y < 256) : bits .and .u8 (y : Int) 1 = ((y % 2 : Nat) : Int) := by
 have h := u8_and_nat y 1 hy (by omega)
 rw [Nat.and_one_is_mod] at h; exact h
theorem i64a1 (y : Nat) (hy : y < 9223372036854775808) : bits .and .i64 (y : Int) 1 = ((y % 2 : Nat) : Int) := by
 have h := bits_nat .i64 63 (by decide) (fun n h0 h1 => by rw [IntKind.wrap_i64]; omega) y 1 hy (by decide)
 have h1 := h.1
 rw [Nat.and_one_is_mod] at h1; exact h1
theorem i64_odd (m : Nat) (hm : m < 9223372036854775808) (h : m % 2 = 1) : (bits BinOp.and IntKind.i64 (m : Int) 1 == 1) = true := by
 have e := i64a1 m hm
 rw [h] at e; rw [e]; decide
theorem i64_even (m : Nat) (hm : m < 9223372036854775808) (h : ¬ m % 2 = 1) : (bits BinOp.and IntKind.i64 (m : Int) 1 == 1) = false := by
 have e := i64a1 m hm
 rw [show m % 2 = 0 by omega] at e; rw [e]; decide
theorem cs6 {i : Nat} (h : i < 6) : i = 0 \/ i = 1 \/ i = 2 \/ i = 3 \/ i = 4 \/ i = 5 := by omega
theorem cs7 {i : Nat} (h : i < 7) : i = 0 \/ i = 1 \/ i = 2 \/ i = 3 \/ i = 4 \/ i = 5 \/ i = 6 := by omega
theorem cs8 {i : Nat} (h : i < 8) : i = 0 \/ i = 1 \/ i = 2 \/ i = 3 \/ i = 4 \/ i = 5 \/ i = 6 \/ i = 7 := by omega
theorem cs9 {i : Nat} (h : i < 9) : i = 0 \/ i = 1 \/ i = 2 \/ i = 3 \/ i = 4 \/ i = 5 \/ i = 6 \/ i = 7 \/ i = 8 := by omega
theorem cs11 {i : Nat} (h : i < 11) : i = 0 \/ i = 1 \/ i = 2 \/ i = 3 \/ i = 4 \/ i = 5 \/ i = 6 \/ i = 7 \/ i = 8 \/ i = 9 \/ i = 10 := by omega
theorem cs12 {i : Nat} (h : i < 12) : i = 0 \/ i = 1 \/ i = 2 \/ i = 3 \/ i = 4 \/ i = 5 \/ i = 6 \/ i = 7 \/ i = 8 \/ i = 9 \/ i = 10 \/ i = 11 := by omega
theorem cs13 {i : Nat} (h : i < 13) : i = 0 \/ i = 1 \/ i = 2 \/ i = 3 \/ i = 4 \/ i = 5 \/ i = 6 \/ i = 7 \/ i = 8 \/ i = 9 \/ i = 10 \/ i = 11 \/ i = 12 := by omega
theorem cs14 {i : Nat} (h : i < 14) : i = 0 \/ i = 1 \/ i = 2 \/ i = 3 \/ i = 4 \/ i = 5 \/ i = 6 \/ i = 7 \/ i = 8 \/ i = 9 \/ i = 10 \/ i = 11 \/ i = 12 \/ i = 13 := by omega
theorem cs15 {i : Nat} (h : i < 15) : i = 0 \/ i = 1 \/ i = 2 \/ i = 3 \/ i = 4 \/ i = 5 \/ i = 6 \/ i = 7 \/ i = 8 \/ i = 9 \/ i = 10 \/ i = 11 \/ i = 12 \/ i = 13 \/ i = 14 := by omega
theorem cs16 {i : Nat} (h : i < 16) : i = 0 \/ i = 1 \/ i = 2 \/ i = 3 \/ i = 4 \/ i = 5 \/ i = 6 \/ i = 7 \/ i = 8 \/ i = 9 \/ i = 10 \/ i = 11 \/ i = 12 \/ i = 13 \/ i = 14 \/ i = 15 := by omega
theorem cs18 {i : Nat} (h : i < 18) : i = 0 \/ i = 1 \/ i = 2 \/ i = 3 \/ i = 4 \/ i = 5 \/ i = 6 \/ i = 7 \/ i = 8 \/ i = 9 \/ i = 10 \/ i = 11 \/ i = 12 \/ i = 13 \/ i = 14 \/ i = 15 \/ i = 16 \/ i = 17 := by omega
theorem cs20 {i : Nat} (h : i < 20) : i = 0 \/ i = 1 \/ i = 2 \/ i = 3 \/ i = 4 \/ i = 5 \/ i = 6 \/ i = 7 \/ i = 8 \/ i = 9 \/ i = 10 \/ i = 11 \/ i = 12 \/ i = 13 \/ i = 14 \/ i = 15 \/ i = 16 \/ i = 17 \/ i = 18 \/ i = 19 := by omega
theorem cs21 {i : Nat} (h : i < 21) : i = 0 \/ i = 1 \/ i = 2 \/ i = 3 \/ i = 4 \/ i = 5 \/ i = 6 \/ i = 7 \/ i = 8 \/ i = 9 \/ i = 10 \/ i = 11 \/ i = 12 \/ i = 13 \/ i = 14 \/ i = 15 \/ i = 16 \/ i = 17 \/ i = 18 \/ i = 19 \/ i = 20 := by omega
theorem cs22 {i : Nat} (h : i < 22) : i = 0 \/ i = 1 \/ i = 2 \/ i = 3 \/ i = 4 \/ i = 5 \/ i = 6 \/ i = 7 \/ i = 8 \/ i = 9 \/ i = 10 \/ i = 11 \/ i = 12 \/ i = 13 \/ i = 14 \/ i = 15 \/ i = 16 \/ i = 17 \/ i = 18 \/ i = 19 \/ i = 20 \/ i = 21 := by omega
theorem cs28 {i : Nat} (h : i < 28) : i = 0 \/ i = 1 \/ i = 2 \/ i = 3 \/ i = 4 \/ i = 5 \/ i = 6 \/ i = 7 \/ i = 8 \/ i = 9 \/ i = 10 \/ i = 11 \/ i = 12 \/ i = 13 \/ i = 14 \/ i = 15 \/ i = 16 \/ i = 17 \/ i = 18 \/ i = 19 \/ i = 20 \/ i = 21 \/ i = 22 \/ i = 23 \/ i = 24 \/ i = 25 \/ i = 26 \/ i = 27 := by omega
theorem load_row_w {P : Program} {ops : Array Oper} {rest : List Oper} {o : Oper} {a : Act} {w : World} {Q : Exit -> Act -> World -> Prop} (hgd : Region.wanted o (yielded ops a.tmps) = true) (ty : TypeId) (x : Operand) (ho : o.op = .load ty x)
  (g : Nat) (hx : a.eval x = .pointer (some ⟨g, 0, none⟩)) (t : TypeId) (cs : Array Value) (fr : Nat × Nat) (d : TypeDesc) (hg : w.heap[g]? = some (.cells cs t fr))
  (hu : P.underlying ty = some d) (hd : (match d with | .struct _ | .array _ _ => true | _ => false) = true) (hi : (P.info? ty).map (·.size) = some cs.size)
  (h : wpList P ops Q rest (a.put o.dst (.agg cs)) w) : wpList P ops Q (o :: rest) a w :=
 wpList_step fun _ hK => by rw [if_pos hgd]; exact wp_load_row ty x ho g hx t cs fr d hg hu hd hi (hK _ _ h)
namespace Fre
section
variable {P : Program} {ops : Array Oper}
def Does (P : Program) (E : Operand -> Value) (o : Oper) (w : World) (R : Value -> World -> Prop) : Prop :=
 match (execOp E o).run P w with
 | .ok (.value v) w' => R v w'
 | .ok .skip w' => R undef w'
 | .ok (.enter f args) w' => Calls P f args w' fun e w'' => ∃ v, e = .returned v /\ R v w''
 | _ => False
theorem Does.value {E : Operand -> Value} {o : Oper} {w w' : World} {v : Value} {R : Value -> World -> Prop} (h : (execOp E o).run P w = .ok (.value v) w') (hR : R v w') : Does P E o w R := by
 unfold Does; rw [h]; exact hR
theorem Does.skip {E : Operand -> Value} {o : Oper} {w w' : World} {R : Value -> World -> Prop} (h : (execOp E o).run P w = .ok .skip w') (hR : R undef w') : Does P E o w R := by
 unfold Does; rw [h]; exact hR
theorem Does.enter {E : Operand -> Value} {o : Oper} {w w' : World} {f : FuncId} {args : Array Value} {R : Value -> World -> Prop} (h : (execOp E o).run P w = .ok (.enter f args) w') (hR : Calls P f args w' fun e w'' => ∃ v, e = .returned v /\ R v w'') : Does P E o w R := by
 unfold Does; rw [h]; exact hR
theorem Does.wp {a : Act} {o : Oper} {w : World} {R : Value -> World -> Prop} {K : Act -> World -> Prop} {Q : Exit -> Act -> World -> Prop} (h : Does P a.eval o w R) (hK : ∀ v w', R v w' -> K (a.put o.dst v) w') : o.wp P a w K Q := by
 unfold Oper.wp
 unfold Does at h
 generalize (execOp a.eval o).run P w = r at *
 cases r with
 | halt x w' => cases x <;> exact h.elim
 | ok n w' =>
  cases n with
  | value v => exact hK _ _ h
  | skip => exact hK _ _ h
  | enter f args =>
   refine Calls.mono h ?_
   rintro e w'' ⟨v, rfl, hv⟩
   exact hK _ _ hv
  | _ => exact h.elim
def dstOf (ops : Array Oper) (j : Nat) : Option Tmp := (ops[j]?).bind (·.dst)
def Agree (ops : Array Oper) (a0 a : Act) (listed : Array Bool) (vs : Nat -> Value) : Prop :=
 a.defers = a0.defers /\ a.tmps.size = a0.tmps.size /\ (∀ j t, j < ops.size -> dstOf ops j = some t -> listed.getD j false = true -> a.tmps[t]? = some (vs j)) /\
  ∀ t, (∀ j, j < ops.size -> dstOf ops j = some t -> listed.getD j false = false) -> a.tmps[t]? = a0.tmps[t]?
def finT (ops : Array Oper) (vs : Nat -> Value) (T : Array Value) : Nat -> Array Value
 | 0 => T
 | n + 1 => match dstOf ops n with
  | some d => (finT ops vs T n).setIfInBounds d (vs n)
  | none => finT ops vs T n
def fit (md : Region.Mode) (ops : Array Oper) (N : Nat) : Bool :=
 (List.range ops.size).all fun j => match ops[j]? with
  | none => false
  | some o => o.guard.isNone && (o.after.all fun e => !Region.binds md e || decide (e.on < j)) && (match o.dst with
   | none => true
   | some d => decide (d < N) && (List.range j).all fun k => dstOf ops k != some d)
structure Fits (md : Region.Mode) (ops : Array Oper) (N : Nat) : Prop where
 guard : ∀ (j : Nat) (o : Oper), ops[j]? = some o -> o.guard = none
 back : ∀ (j : Nat) (o : Oper) e, ops[j]? = some o -> e ∈ o.after -> Region.binds md e = true -> e.on < j
 inb : ∀ j d, dstOf ops j = some d -> d < N
 apart : ∀ j k d, j < ops.size -> k < ops.size -> dstOf ops j = some d -> dstOf ops k = some d -> j = k
theorem fits_of {md : Region.Mode} {N : Nat} (h : fit md ops N = true) : Fits md ops N := by
 have hj : ∀ (j : Nat) (o : Oper), ops[j]? = some o -> o.guard = none /\ (∀ e ∈ o.after, Region.binds md e = true -> e.on < j) /\ (∀ d, o.dst = some d -> d < N /\ ∀ k, k < j -> dstOf ops k ≠ some d) := by
  intro j o ho;have hlt : j < ops.size := (Array.getElem?_eq_some_iff.1 ho).1
  unfold fit at h
  rw [List.all_eq_true] at h;have h1 := h j (List.mem_range.2 hlt)
  simp only [ho, Bool.and_eq_true] at h1
  refine ⟨by simpa using h1.1.1, fun e he hb => ?_, fun d hd => ?_⟩
  ·have := h1.1.2
   rw [Array.all_eq_true_iff_forall_mem] at this;have h3 := this e he
   rw [hb] at h3;simpa using h3
  ·have h2 := h1.2
   rw [hd] at h2;simp only [Bool.and_eq_true, decide_eq_true_eq, List.all_eq_true] at h2
   exact ⟨h2.1, fun k hk => by simpa using h2.2 k (List.mem_range.2 hk)⟩
 have hd : ∀ j d, dstOf ops j = some d -> ∃ o, ops[j]? = some o /\ o.dst = some d := by
  intro j d h;unfold dstOf at h
  cases ho : ops[j]? with
  | none => rw [ho] at h; cases h
  | some o => rw [ho] at h; exact ⟨o, rfl, h⟩
 refine ⟨fun j o ho => (hj j o ho).1, fun j o e ho he hb => (hj j o ho).2.1 e he hb, fun j d h => ?_, fun j k d h1 h2 h3 h4 => ?_⟩
 ·obtain ⟨o, ho, hdd⟩ := hd j d h
  exact ((hj j o ho).2.2 d hdd).1
 ·obtain ⟨o, ho, hdd⟩ := hd j d h3
  obtain ⟨o', ho', hdd'⟩ := hd k d h4
  rcases Nat.lt_trichotomy j k with h | h | h
  ·exact absurd h3 (((hj k o' ho').2.2 d hdd').2 j h)
  ·exact h
  ·exact absurd h4 (((hj j o ho).2.2 d hdd).2 k h)
theorem finT_size (vs : Nat -> Value) (T : Array Value) : ∀ n, (finT ops vs T n).size = T.size := by
 intro n
 induction n with
 | zero => rfl
 | succ n ih => unfold finT; split <;> simp [ih]
theorem finT_get {md : Region.Mode} {N : Nat} (hf : Fits md ops N) (vs : Nat -> Value) (T : Array Value) (hN : T.size = N) : ∀ n, n <= ops.size -> ∀ t,
  (∀ j, j < n -> dstOf ops j = some t -> (finT ops vs T n)[t]? = some (vs j)) /\ ((∀ j, j < n -> dstOf ops j ≠ some t) -> (finT ops vs T n)[t]? = T[t]?) := by
 intro n
 induction n with
 | zero => intro _ t; exact ⟨fun j h => by omega, fun _ => rfl⟩
 | succ n ih =>
  intro hn t;obtain ⟨ih1, ih2⟩ := ih (by omega) t
  unfold finT
  cases hd : dstOf ops n with
  | none =>
   refine ⟨fun j hj hjt => ?_, fun h => ih2 fun j hj => h j (by omega)⟩
   rcases Nat.lt_or_eq_of_le (Nat.le_of_lt_succ hj) with h | h
   ·exact ih1 j h hjt
   ·subst h; rw [hd] at hjt; cases hjt
  | some d =>
   simp only
   by_cases hdt : d = t
   ·subst hdt
    have hlt : d < (finT ops vs T n).size := by rw [finT_size, hN]; exact hf.inb n d hd
    refine ⟨fun j hj hjt => ?_, fun h => absurd hd (h n (by omega))⟩
    have : j = n := hf.apart j n d (by omega) (by omega) hjt hd
    subst this;rw [Array.getElem?_setIfInBounds]; simp [hlt]
   ·have e : ((finT ops vs T n).setIfInBounds d (vs n))[t]? = (finT ops vs T n)[t]? := by
     rw [Array.getElem?_setIfInBounds]; simp [hdt]
    rw [e];refine ⟨fun j hj hjt => ?_, fun h => ih2 fun j hj => h j (by omega)⟩
    rcases Nat.lt_or_eq_of_le (Nat.le_of_lt_succ hj) with h | h
    ·exact ih1 j h hjt
    ·subst h; rw [hd] at hjt; cases hjt; exact absurd rfl hdt
theorem Agree.fin {md : Region.Mode} {N : Nat} (hf : Fits md ops N) {a0 a : Act} (hN : a0.tmps.size = N) {listed : Array Bool} {vs : Nat -> Value} (h : Agree ops a0 a listed vs) (hall : ∀ j, j < ops.size -> listed.getD j false = true) : a = ⟨finT ops vs a0.tmps ops.size, a0.defers⟩ := by
 obtain ⟨h1, h2, h3, h4⟩ := h
 obtain ⟨T, D⟩ := a
 simp only at h1 h2 h3 h4
 subst h1
 congr 1
 apply Array.ext_getElem?
 intro t;obtain ⟨k1, k2⟩ := finT_get hf vs a0.tmps hN ops.size (Nat.le_refl _) t
 by_cases hx : ∃ j, j < ops.size /\ dstOf ops j = some t
 ·obtain ⟨j, hj, hd⟩ := hx
  rw [k1 j hj hd, h3 j t hj hd (hall j hj)]
 ·rw [k2 (fun j hj hd => hx ⟨j, hj, hd⟩)]
  exact h4 t fun j hj hd => absurd ⟨j, hj, hd⟩ hx
theorem Agree.step {md : Region.Mode} {N : Nat} (hf : Fits md ops N) {a0 a : Act} (hN : a0.tmps.size = N) {listed : Array Bool} {vs : Nat -> Value} (h : Agree ops a0 a listed vs) {i : Nat} (hi : i < ops.size) (hl : listed.size = ops.size) (hun : listed.getD i true = false) (v : Value) :
  Agree ops a0 (a.put (dstOf ops i) v) (listed.setIfInBounds i true) (fun j => if j = i then v else vs j) := by
 obtain ⟨h1, h2, h3, h4⟩ := h
 have hg : ∀ j, j ≠ i -> (listed.setIfInBounds i true).getD j false = listed.getD j false := fun j hj => by
  simp [Array.getD_eq_getD_getElem?, Array.getElem?_setIfInBounds, Ne.symm hj]
 have hgi : (listed.setIfInBounds i true).getD i false = true := by
  simp [Array.getD_eq_getD_getElem?, Array.getElem?_setIfInBounds, hl, hi]
 have hgf : ∀ j, j < ops.size -> listed.getD j false = listed.getD j true := fun j hj => by
  simp [Array.getD_eq_getD_getElem?, hl, hj]
 cases hd : dstOf ops i with
 | none =>
  refine ⟨h1, h2, fun j t hj hjt hlj => ?_, fun t ht => h4 t fun j hj hjt => ?_⟩
  ·have hji : j ≠ i := fun e => by subst e; rw [hd] at hjt; cases hjt
   rw [hg j hji] at hlj
   simp only [if_neg hji]
   exact h3 j t hj hjt hlj
  ·have hji : j ≠ i := fun e => by subst e; rw [hd] at hjt; cases hjt
   rw [<- hg j hji]; exact ht j hj hjt
 | some d =>
  have hdN : d < a.tmps.size := by rw [h2, hN]; exact hf.inb i d hd
  refine ⟨h1, ?_, fun j t hj hjt hlj => ?_, fun t ht => ?_⟩
  ·show (a.tmps.setIfInBounds d v).size = _
   rw [Array.size_setIfInBounds]; exact h2
  ·show (a.tmps.setIfInBounds d v)[t]? = _
   by_cases hji : j = i
   ·subst hji
    rw [hd] at hjt
    cases hjt
    rw [Array.getElem?_setIfInBounds]; simp [hdN]
   ·have hdt : d ≠ t := fun e => hji (hf.apart j i t hj hi hjt (by rw [hd, e]))
    rw [hg j hji] at hlj
    rw [Array.getElem?_setIfInBounds]
    simp only [if_neg hdt, if_neg hji]
    exact h3 j t hj hjt hlj
  ·show (a.tmps.setIfInBounds d v)[t]? = _
   have hdt : d ≠ t := fun e => by
    have := ht i hi (by rw [hd, e])
    rw [hgi] at this; cases this
   rw [Array.getElem?_setIfInBounds]
   simp only [if_neg hdt]
   refine h4 t fun j hj hjt => ?_
   have hji : j ≠ i := fun e => by subst e; rw [hd] at hjt; cases hjt; exact hdt rfl
   rw [<- hg j hji]; exact ht j hj hjt
def waits (md : Region.Mode) (ops : Array Oper) (i j : Nat) : Bool := ((ops[i]?).map fun o => o.after.any fun e => Region.binds md e && e.on == j).getD false
def Step (P : Program) (md : Region.Mode) (ops : Array Oper) (a0 : Act) (w0 : World) (V : Nat -> Value -> World -> Prop) (St : World -> World -> Prop) (i : Nat) : Prop :=
 ∀ (E : Operand -> Value) (w : World), (∀ v, E (.const v) = v) -> (∀ f, E (.func f) = .func (.func f) #[] #[]) -> (∀ g, E (.global g) = .pointer (some ⟨g, 0, none⟩)) ->
  (∀ t, (∀ j, j < ops.size -> dstOf ops j ≠ some t) -> E (.tmp t) = a0.tmps.getD t undef) -> (∀ j t, waits md ops i j = true -> dstOf ops j = some t -> V j (E (.tmp t)) w) -> (∀ j, waits md ops i j = true -> dstOf ops j = none -> ∃ v, V j v w) -> St w0 w ->
  ∀ o, ops[i]? = some o -> Does P E o w fun v w' => V i v w' /\ St w w'
def StepO (P : Program) (md : Region.Mode) (ops : Array Oper) (a0 : Act) (w0 : World) (V : Nat -> Value -> World -> Prop) (St : World -> World -> Prop) (i : Nat) : Prop :=
 ∀ (E : Operand -> Value) (w : World), (∀ v, E (.const v) = v) -> (∀ f, E (.func f) = .func (.func f) #[] #[]) -> (∀ g, E (.global g) = .pointer (some ⟨g, 0, none⟩)) ->
  (∀ t, (∀ j, j < ops.size -> dstOf ops j = some t -> waits md ops j i = true) -> E (.tmp t) = a0.tmps.getD t undef) -> (∀ j t, waits md ops i j = true -> dstOf ops j = some t -> V j (E (.tmp t)) w) -> (∀ j, waits md ops i j = true -> dstOf ops j = none -> ∃ v, V j v w) -> St w0 w ->
  ∀ o, ops[i]? = some o -> Does P E o w fun v w' => V i v w' /\ St w w'
theorem any_freeO {md : Region.Mode} {Q : Exit -> Act -> World -> Prop} {a0 : Act} {w0 : World} {N : Nat} (hf : Fits md ops N) (hN : a0.tmps.size = N) (V : Nat -> Value -> World -> Prop) (St : World -> World -> Prop)
  (htr : ∀ a b c, St a b -> St b c -> St a c) (hst : ∀ j v w w', j < ops.size -> V j v w -> St w w' -> V j v w') (hop : ∀ i, i < ops.size -> StepO P md ops a0 w0 V St i)
  (hQ : ∀ (vs : Nat -> Value) w, (∀ j, j < ops.size -> V j (vs j) w) -> St w0 w -> Q .normal ⟨finT ops vs a0.tmps ops.size, a0.defers⟩ w) :
  ∀ (fuel : Nat) (listed : Array Bool) (a : Act) (w : World) (vs : Nat -> Value), listed.size = ops.size -> ((List.range ops.size).filter fun j => !listed.getD j true).length <= fuel ->
   (∀ j i, listed.getD j false = true -> waits md ops j i = true -> listed.getD i false = true) -> Agree ops a0 a listed vs -> (∀ j, j < ops.size -> listed.getD j false = true -> V j (vs j) w) -> St w0 w -> wpAny P md ops Q fuel listed a w := by
 have hgf : ∀ (listed : Array Bool), listed.size = ops.size -> ∀ j, j < ops.size -> listed.getD j false = listed.getD j true := fun listed hl j hj => by
  simp [Array.getD_eq_getD_getElem?, hl, hj]
 have hend : ∀ (listed : Array Bool) (a : Act) (w : World) (vs : Nat -> Value), listed.size = ops.size -> Agree ops a0 a listed vs -> (∀ j, j < ops.size -> listed.getD j false = true -> V j (vs j) w) -> St w0 w -> Region.ready md ops listed = [] -> Q .normal a w := by
  intro listed a w vs hl hA hV hS hr;have hall : ∀ j, j < ops.size -> listed.getD j false = true := by
   intro j
   induction j using Nat.strongRecOn with
   | ind j ih =>
    intro hj
    cases hc : listed.getD j false with
    | true => rfl
    | false =>
     have : j ∈ Region.ready md ops listed := by
      refine mem_ready.2 ⟨by rw [<- hgf listed hl j hj]; exact hc, ops[j], Array.getElem?_eq_getElem hj, fun e he hbi => ?_⟩
      have hb := hf.back j ops[j] e (Array.getElem?_eq_getElem hj) he hbi
      exact ih e.on hb (by omega)
     rw [hr] at this; cases this
  rw [hA.fin hf hN hall]
  exact hQ vs w (fun j hj => hV j hj (hall j hj)) hS
 intro fuel
 induction fuel with
 | zero =>
  intro listed a w vs hl hc hcl hA hV hS;have hr : Region.ready md ops listed = [] := by
   cases hrr : Region.ready md ops listed with
   | nil => rfl
   | cons x xs =>
    have hx : x ∈ Region.ready md ops listed := by rw [hrr]; simp
    obtain ⟨h1, o, ho, _⟩ := mem_ready.1 hx
    have hlt : x < ops.size := (Array.getElem?_eq_some_iff.1 ho).1
    have : x ∈ (List.range ops.size).filter fun j => !listed.getD j true := List.mem_filter.2 ⟨List.mem_range.2 hlt, by rw [h1]; rfl⟩
    rw [List.eq_nil_of_length_eq_zero (Nat.le_zero.1 hc)] at this
    cases this
  exact ⟨hr, hend listed a w vs hl hA hV hS hr⟩
 | succ fuel ih =>
  intro listed a w vs hl hc hcl hA hV hS;refine ⟨fun hr => hend listed a w vs hl hA hV hS hr, fun i hi => ?_⟩
  obtain ⟨hun, o, ho, hdep⟩ := mem_ready.1 hi
  have hlt : i < ops.size := (Array.getElem?_eq_some_iff.1 ho).1
  unfold wpOp;simp only [ho]
  rw [if_pos (by unfold Region.wanted; rw [hf.guard i o ho])]
  refine .inl ?_
  have hdo : dstOf ops i = o.dst := by unfold dstOf; rw [ho]; rfl
  have hwl : ∀ j, waits md ops i j = true -> listed.getD j false = true := by
   intro j hw;unfold waits at hw
   rw [ho] at hw;simp only [Option.map_some, Option.getD_some, Array.any_eq_true', Bool.and_eq_true, beq_iff_eq] at hw
   obtain ⟨e, he, hb, rfl⟩ := hw
   exact hdep e he hb
  have hlj : ∀ j, listed.getD j false = true -> j < ops.size := fun j h => by
   rcases Nat.lt_or_ge j ops.size with h' | h'
   ·exact h'
   ·rw [Array.getD_eq_getD_getElem?, Array.getElem?_eq_none (by rw [hl]; exact h')] at h; cases h
  have hD := hop i hlt a.eval w (fun _ => rfl) (fun _ => rfl) (fun _ => rfl) (fun t ht => by
    show a.tmps.getD t undef = _
    rw [Array.getD_eq_getD_getElem?, Array.getD_eq_getD_getElem?, hA.2.2.2 t fun j hj hjt => (by
     cases hlj9 : listed.getD j false with
     | false => rfl
     | true =>
      have h9 := hcl j i hlj9 (ht j hj hjt)
      rw [hgf listed hl i hlt, hun] at h9; cases h9)])
   (fun j t hw hjt => by
    have h1 := hwl j hw
    have h2 := hA.2.2.1 j t (hlj j h1) hjt h1
    show V j (a.tmps.getD t undef) w
    rw [Array.getD_eq_getD_getElem?, h2]
    exact hV j (hlj j h1) h1) (fun j hw _ => ⟨vs j, hV j (hlj j (hwl j hw)) (hwl j hw)⟩) hS o ho
  refine Does.wp hD ?_
  rintro v w' ⟨hv, hs⟩
  rw [<- hdo];have hfl : (List.range ops.size).filter (fun j => !(listed.setIfInBounds i true).getD j true) = ((List.range ops.size).filter fun j => !listed.getD j true).filter fun j => j != i := by
   rw [List.filter_filter]
   apply List.filter_congr
   intro j hj
   by_cases hji : j = i
   ·subst hji
    simp [Array.getD_eq_getD_getElem?, Array.getElem?_setIfInBounds, hl, hlt]
   ·simp [Array.getD_eq_getD_getElem?, Array.getElem?_setIfInBounds, Ne.symm hji, hji]
  refine ih (listed.setIfInBounds i true) (a.put (dstOf ops i) v) w' _ (by simp [hl]) ?_ (fun j k hj hw => ?_) (hA.step hf hN hlt hl hun v) (fun j hj hlj' => ?_) (htr _ _ _ hS hs)
  ·rw [hfl]
   have hmem : i ∈ (List.range ops.size).filter fun j => !listed.getD j true := List.mem_filter.2 ⟨List.mem_range.2 hlt, by rw [hun]; rfl⟩
   have hlt2 : (((List.range ops.size).filter fun j => !listed.getD j true).filter fun j => j != i).length < ((List.range ops.size).filter fun j => !listed.getD j true).length := by
    apply List.length_filter_lt_length_iff_exists.2
    exact ⟨i, hmem, by simp⟩
   omega
  ·have hset : ∀ x, (listed.setIfInBounds i true).getD x false = if x = i then true else listed.getD x false := fun x => by
    by_cases e : x = i
    ·subst e
     simp [Array.getD_eq_getD_getElem?, Array.getElem?_setIfInBounds, hl, hlt]
    ·simp [Array.getD_eq_getD_getElem?, Array.getElem?_setIfInBounds, e, Ne.symm e]
   rw [hset] at hj ⊢
   split
   ·rfl
   ·by_cases e : j = i
    ·subst e; exact hwl k hw
    ·rw [if_neg e] at hj; exact hcl j k hj hw
  ·by_cases hji : j = i
   ·subst hji; simp only [if_true]; exact hv
   ·simp only [if_neg hji]
    refine hst j _ w w' hj (hV j hj ?_) hs
    rw [Array.getD_eq_getD_getElem?, Array.getElem?_setIfInBounds] at hlj'
    rw [Array.getD_eq_getD_getElem?]
    simpa [Ne.symm hji] using hlj'
theorem region_freeO {id : Nat} {Q : Exit -> Act -> World -> Prop} {a0 : Act} {w0 : World} (N : Nat) (hm : P.follows .mixedOrders = true) (hf : fit .any ops N = true) (hN : a0.tmps.size = N) (V : Nat -> Value -> World -> Prop) (St : World -> World -> Prop)
  (hrf : ∀ a, St a a) (hdr : St w0 w0.drew) (htr : ∀ a b c, St a b -> St b c -> St a c) (hst : ∀ j v w w', j < ops.size -> V j v w -> St w w' -> V j v w') (hop : ∀ i, i < ops.size -> StepO P .any ops a0 w0 V St i)
  (hQ : ∀ (vs : Nat -> Value) w, (∀ j, j < ops.size -> V j (vs j) w) -> St w0 w -> Q .normal ⟨finT ops vs a0.tmps ops.size, a0.defers⟩ w) : (Code.region id ops true).wp P Q a0 w0 := by
 refine wp_region_any hm ?_
 refine any_freeO (fits_of (md := .any) hf) hN V St htr hst hop hQ ops.size _ a0 _ (fun _ => undef) (by simp) (by have := List.length_filter_le (fun j => !(Array.replicate ops.size false).getD j true) (List.range ops.size); rw [List.length_range] at this; exact this) (fun j i h => by rw [show (Array.replicate ops.size false).getD j false = false by rw [Array.getD_eq_getD_getElem?, Array.getElem?_replicate]; split <;> rfl] at h; cases h) ⟨rfl, rfl, fun j t hj _ h => ?_, fun t _ => rfl⟩ (fun j hj h => ?_) hdr
 ·simp [Array.getD_eq_getD_getElem?, hj] at h
 ·simp [Array.getD_eq_getD_getElem?, hj] at h
def lateDst (ops : Array Oper) (i : Nat) (t : Tmp) : Bool := (List.range ops.size).all fun j => dstOf ops j != some t || waits .any ops j i
theorem region_free {id : Nat} {Q : Exit -> Act -> World -> Prop} {a0 : Act} {w0 : World} (N : Nat) (hm : P.follows .mixedOrders = true) (hf : fit .any ops N = true) (hN : a0.tmps.size = N) (V : Nat -> Value -> World -> Prop) (St : World -> World -> Prop)
  (hrf : ∀ a, St a a) (hdr : St w0 w0.drew) (htr : ∀ a b c, St a b -> St b c -> St a c) (hst : ∀ j v w w', j < ops.size -> V j v w -> St w w' -> V j v w') (hop : ∀ i, i < ops.size -> Step P .any ops a0 w0 V St i)
  (hQ : ∀ (vs : Nat -> Value) w, (∀ j, j < ops.size -> V j (vs j) w) -> St w0 w -> Q .normal ⟨finT ops vs a0.tmps ops.size, a0.defers⟩ w) : (Code.region id ops true).wp P Q a0 w0 :=
 region_freeO N hm hf hN V St hrf hdr htr hst (fun i hi E w h1 h2 h3 h4 => hop i hi E w h1 h2 h3 fun t ht => h4 t fun j hj e => absurd e (ht j hj)) hQ
def noDst (ops : Array Oper) (t : Tmp) : Bool := (List.range ops.size).all fun j => dstOf ops j != some t
def StepB (P : Program) (ops : Array Oper) (a0 : Act) (w0 : World) (V : Nat -> Value -> World -> Prop) (St : World -> World -> Prop) (i : Nat) : Prop :=
 ∀ (E : Operand -> Value) (w : World), (∀ v, E (.const v) = v) -> (∀ f, E (.func f) = .func (.func f) #[] #[]) ->
  (∀ t, noDst ops t = true -> E (.tmp t) = a0.tmps.getD t undef) -> (∀ j t, waits .any ops i j = true -> (dstOf ops j == some t) = true -> V j (E (.tmp t)) w) -> (∀ j, waits .any ops i j = true -> dstOf ops j = none -> ∃ v, V j v w) -> St w0 w ->
  ∀ o, ops[i]? = some o -> Does P E o w fun v w' => V i v w' /\ St w w'
theorem StepB.step {a0 : Act} {w0 : World} {V : Nat -> Value -> World -> Prop} {St : World -> World -> Prop} {i : Nat} (h : StepB P ops a0 w0 V St i) : Step P .any ops a0 w0 V St i :=
 fun E w h1 h2 _ h4 h5 h6 h7 o ho => h E w h1 h2 (fun t ht => h4 t fun j hj hd => by
  unfold noDst at ht
  rw [List.all_eq_true] at ht;have := ht j (List.mem_range.2 hj)
  rw [hd] at this; simp at this) (fun j t hw hd => h5 j t hw (by simpa using hd)) h6 h7 o ho
def findR (n : Nat) : Code -> Option (Array Oper)
 | .region id ops _ => if id = n then some ops else none
 | .seq a b => (match findR n a with | some o => some o | none => findR n b)
 | .cond _ a b => (match findR n a with | some o => some o | none => findR n b)
 | .block _ b => findR n b
 | .loop b => findR n b
 | .scope b => findR n b
 | _ => none
def Kept (a b : World) : Prop := Below a.heap.size a b
theorem Kept.refl (a : World) : Kept a a := Below.refl _ _
theorem Kept.trans {a b c : World} (h : Kept a b) (k : Kept b c) : Kept a c := Below.trans h (k.mono h.size)
theorem Kept.drew (a : World) : Kept a a.drew := Below.drew (Below.refl _ _)
theorem fe {p : Array Value -> Prop} {a b : Array Value} (h : p a) (e : a = b) : p b := e ▸ h
theorem dv {E : Operand -> Value} {o : Oper} {w : World} {v : Value} (h : (execOp E o).run P w = .ok (.value v) w) : Does P E o w fun v' w' => v' = v /\ Kept w w' := Does.value h ⟨rfl, Kept.refl _⟩
theorem region_kept {id : Nat} {Q : Exit -> Act -> World -> Prop} {a0 : Act} {w0 : World} (N : Nat) (hm : P.follows .mixedOrders = true) (hf : fit .any ops N = true) (hN : a0.tmps.size = N) (V : Nat -> Value -> World -> Prop)
  (hst : ∀ j v w w', j < ops.size -> V j v w -> Kept w w' -> V j v w') (hop : ∀ i, i < ops.size -> StepB P ops a0 w0 V Kept i)
  (hQ : ∀ (vs : Nat -> Value) w, (∀ j, j < ops.size -> V j (vs j) w) -> Kept w0 w -> Q .normal ⟨finT ops vs a0.tmps ops.size, a0.defers⟩ w) : (Code.region id ops true).wp P Q a0 w0 :=
 region_free N hm hf hN V Kept Kept.refl (Kept.drew _) (fun _ _ _ h k => h.trans k) hst (fun i hi => (hop i hi).step) hQ
end
end Fre
def OnlyG (Q : Act -> World -> Prop) : Exit -> Act -> World -> Prop
 | .normal, a, w => Q a w
 | _, _, _ => False
theorem cells_atK {w : World} {g : Nat} {A : Array Value} {t : TypeId} {z : Nat × Nat} (h : w.heap[g]? = some (.cells A t z)) (j : Nat) : w.cell? ⟨g, j, none⟩ = A[j]? := by
 simp [World.cell?, h]
structure RowTy (P : Program) {α : Type} (val : α -> Value) (enc : α -> List Value) (k b : Nat) (S T : TypeId) : Prop where
 und : P.underlying S = some (.slice T)
 info : ∃ z, (P.info? T).map (fun i => (i.zero, i.size, i.bytes)) = some (some z, k, b) /\ z.cells.size = k
 cells : ∀ x, (val x).cells = (enc x).toArray
 len : ∀ x, (enc x).length = k
 one : ∀ x, ∀ v ∈ enc x, v.oneCell' = true
 pos : 0 < k
section
variable {P : Program} {α : Type} {val : α -> Value} {enc : α -> List Value} {k b : Nat} {S T : TypeId}
def cellsK (enc : α -> List Value) (L : List α) : List Value := L.flatMap enc
theorem cellsK_len (hk : ∀ x, (enc x).length = k) (L : List α) : (cellsK enc L).length = L.length * k := by
 induction L with
 | nil => simp [cellsK]
 | cons x xs ih => unfold cellsK at *; rw [List.flatMap_cons, List.length_append, ih, hk, List.length_cons, Nat.succ_mul]; omega
theorem cellsK_app (L M : List α) : cellsK enc (L ++ M) = cellsK enc L ++ cellsK enc M := by unfold cellsK; rw [List.flatMap_append]
theorem cellsK_one (x : α) : cellsK enc [x] = enc x := by simp [cellsK]
theorem cellsK_cons (x : α) (L : List α) : cellsK enc (x :: L) = enc x ++ cellsK enc L := by simp [cellsK]
theorem cellsK_get (hk : ∀ x, (enc x).length = k) : ∀ (L : List α) (i j : Nat) (p : α), L[i]? = some p -> j < k -> (cellsK enc L)[i * k + j]? = (enc p)[j]?
 | [], i, j, p, h, hj => by cases h
 | x :: xs, 0, j, p, h, hj => by
  have hx : x = p := by simpa using h
  subst hx;rw [cellsK_cons, Nat.zero_mul, Nat.zero_add, List.getElem?_append_left (by rw [hk]; exact hj)]
 | x :: xs, i + 1, j, p, h, hj => by
  rw [cellsK_cons, List.getElem?_append_right (by rw [hk, Nat.succ_mul]; omega), hk, show (i + 1) * k + j - k = i * k + j by rw [Nat.succ_mul]; omega]
  exact cellsK_get hk xs i j p (by simpa using h) hj
theorem cellsK_oneCell (h1 : ∀ x, ∀ v ∈ enc x, v.oneCell' = true) (L : List α) : ∀ v ∈ cellsK enc L, v.oneCell' = true := by
 intro v hv;obtain ⟨p, _, hp⟩ := List.mem_flatMap.1 hv
 exact h1 p v hp
def RowK (enc : α -> List Value) (k : Nat) (w : World) (a : Option Addr) (L : List α) : Prop :=
 ∀ (i : Nat) x, L[i]? = some x -> ∃ g o, a = some ⟨g, o, none⟩ /\ g < w.heap.size /\ ∀ j u, (enc x)[j]? = some u -> w.cell? ⟨g, o + (i * k + j), none⟩ = some u
theorem RowK.nil (w : World) (a : Option Addr) : RowK enc k w a ([] : List α) := fun i x h => by cases h
theorem RowK.up {w w' : World} {a : Option Addr} {L : List α} (h : RowK enc k w a L) {B : Nat} (hb : Below B w w') (hB : w.heap.size <= B) : RowK enc k w' a L := by
 intro i x hx;obtain ⟨g, o, e, hg, hc⟩ := h i x hx
 exact ⟨g, o, e, Nat.lt_of_lt_of_le hg hb.size, fun j u hu => (hb.cell (p := ⟨g, _, none⟩) (Nat.lt_of_lt_of_le hg hB)).trans (hc j u hu)⟩
theorem RowK.keep {w w' : World} {g o : Nat} {L : List α} (h : RowK enc k w (some ⟨g, o, none⟩) L) (he : w'.heap[g]? = w.heap[g]?) : RowK enc k w' (some ⟨g, o, none⟩) L := by
 intro i x hx;obtain ⟨g', o', e, hg, hc⟩ := h i x hx
 cases e
 refine ⟨_, _, rfl, ?_, fun j u hu => ?_⟩
 ·have := he.trans (Array.getElem?_eq_getElem hg); exact (Array.getElem?_eq_some_iff.1 this).1
 ·rw [<- hc j u hu]; simp [World.cell?, he]
theorem RowK.take {w : World} {a : Option Addr} {L : List α} (h : RowK enc k w a L) (n : Nat) : RowK enc k w a (L.take n) := by
 intro i x hx;rw [List.getElem?_take] at hx
 split at hx
 ·exact h i x hx
 ·cases hx
theorem RowK.at {w : World} {g o : Nat} {L : List α} (h : RowK enc k w (some ⟨g, o, none⟩) L) {i : Nat} {x : α} (hx : L[i]? = some x) : g < w.heap.size /\ ∀ j u, (enc x)[j]? = some u -> w.cell? ⟨g, o + (i * k + j), none⟩ = some u := by
 obtain ⟨g', o', e, hg, hc⟩ := h i x hx
 cases e
 exact ⟨hg, hc⟩
theorem RowK.range {w : World} {g o : Nat} {L : List α} (h : RowK enc k w (some ⟨g, o, none⟩) L) {i : Nat} {x : α} (hx : L[i]? = some x) : w.rangeAt g (o + i * k) (enc x) := by
 intro j v hv;rw [Nat.add_assoc];exact (h.at hx).2 j v hv
theorem RowK.drop {w : World} {g o : Nat} {L : List α} (h : RowK enc k w (some ⟨g, o, none⟩) L) (n : Nat) : RowK enc k w (some ⟨g, o + n * k, none⟩) (L.drop n) := by
 intro i x hx;rw [List.getElem?_drop] at hx
 obtain ⟨hg, hc⟩ := h.at hx
 refine ⟨_, _, rfl, hg, fun j u hu => ?_⟩
 rw [<- hc j u hu]
 congr 2
 rw [Nat.add_mul]
 omega
theorem rowK_cells (hk : ∀ x, (enc x).length = k) {w : World} {g o : Nat} {M : List α} (h : RowK enc k w (some ⟨g, o, none⟩) M) : ∀ j u, (cellsK enc M)[j]? = some u -> w.cell? ⟨g, o + j, none⟩ = some u := by
 intro j u hu;have hj : j < M.length * k := by have := (List.getElem?_eq_some_iff.1 hu).1; rwa [cellsK_len hk] at this
 have hk0 : 0 < k := Nat.pos_of_ne_zero fun h => by subst h; omega
 have hq : j / k < M.length := (Nat.div_lt_iff_lt_mul hk0).2 hj
 obtain ⟨_, h3⟩ := h.at (List.getElem?_eq_getElem hq)
 have e : j / k * k + j % k = j := by rw [Nat.mul_comm]; exact Nat.div_add_mod j k
 have h4 := cellsK_get hk M (j / k) (j % k) _ (List.getElem?_eq_getElem hq) (Nat.mod_lt _ hk0)
 rw [e, hu] at h4
 have h5 := h3 (j % k) u h4.symm
 rw [e] at h5;exact h5
theorem rowK_of_cells (hk : ∀ x, (enc x).length = k) {w : World} {g o : Nat} {M : List α} (hg : g < w.heap.size) (h : ∀ j u, (cellsK enc M)[j]? = some u -> w.cell? ⟨g, o + j, none⟩ = some u) : RowK enc k w (some ⟨g, o, none⟩) M := by
 intro i x hx;refine ⟨g, o, rfl, hg, fun j u hu => h _ _ ?_⟩
 have hj : j < k := by have := (List.getElem?_eq_some_iff.1 hu).1; rwa [hk] at this
 rw [cellsK_get hk M i j x hx hj]; exact hu
theorem rowK_blk (hk : ∀ x, (enc x).length = k) {w : World} {g : Nat} {M : List α} {A : Array Value} {t : TypeId} {z : Nat × Nat} (h : w.heap[g]? = some (.cells A t z)) (hA : ∀ (j : Nat) (u : Value), (cellsK enc M)[j]? = some u -> A[j]? = some u) : RowK enc k w (some ⟨g, 0, none⟩) M :=
 rowK_of_cells hk (lt_of_block h) fun j u hu => by rw [Nat.zero_add, cells_atK h j]; exact hA j u hu
theorem rowK_own (hk : ∀ x, (enc x).length = k) (hk0 : 0 < k) {w : World} {base n : Nat} {a : Option Addr} {c : Nat} {L : List α} (hown : w.ownsRow base T k (.slice a n c) n (cellsK enc L)) : RowK enc k w a L := by
 have hn : n = L.length := Nat.eq_of_mul_eq_mul_right hk0 (by have := hown.1; rw [cellsK_len hk] at this; omega)
 intro i x hx;have hi : i < L.length := (List.getElem?_eq_some_iff.1 hx).1
 rcases hown.2 with ⟨h3, h4⟩ | ⟨g, cap, cur, h3, h4, h5, h6⟩
 ·omega
 ·cases h3
  refine ⟨g, 0, rfl, lt_of_block h5, fun j u hu => ?_⟩
  have hj : j < k := by have := (List.getElem?_eq_some_iff.1 hu).1; rwa [hk] at this
  have hlt : i * k + j < (cellsK enc L).length := by
   rw [cellsK_len hk]
   have : (i + 1) * k <= L.length * k := Nat.mul_le_mul_right k hi
   rw [Nat.succ_mul] at this; omega
  have hlt2 : i * k + j < n * k := by rw [cellsK_len hk] at hlt; rw [hn]; exact hlt
  rw [Nat.zero_add, hown.cellAt (i * k + j) (by first | exact hlt2 | exact hlt), cellsK_get hk L i j x hx hj]
  exact hu
theorem RowTy.parts (h : RowTy P val enc k b S T) : ∃ i z, P.info? T = some i /\ i.zero = some z /\ i.size = k /\ i.bytes = b /\ z.cells.size = k := by
 obtain ⟨z, h1, h2⟩ := h.info
 obtain ⟨i, hi, hh⟩ := Option.map_eq_some_iff.1 h1
 simp only [Prod.mk.injEq] at hh
 exact ⟨i, z, hi, hh.1, hh.2.1, hh.2.2, h2⟩
theorem RowTy.run_append (R : RowTy P val enc k b S T) {w : World} (ty : TypeId) {base n : Nat} {v : Value} {L : List α} (hA : w.ownsRow base T k v n (cellsK enc L)) {a : Option Addr} {m cap : Nat} {M : List α} (hm : M.length = m) (hM : RowK enc k w a M) (hnil : a = none -> m = 0 /\ cap = 0) (hpl : ∀ p, a = some p -> p.spot = none)
  (h63 : n + m <= maxLen) (hby : (n + m) * b <= 140737488355328) (hbase : base <= w.heap.size) :
  ∃ v' w', (Builtin.append_ #[S, S] ty #[v, .slice a m cap]).run P w = .ok v' w' /\ w'.ownsRow base T k v' (n + m) (cellsK enc (L ++ M)) /\ w.grownBy w' v.ownBlock /\ (v' = .slice none 0 0 ↔ v = .slice none 0 0 /\ m = 0) := by
 obtain ⟨i0, z, hi, hz, hs, hb0, hzs⟩ := R.parts
 cases a with
 | none =>
  obtain ⟨rfl, rfl⟩ := hnil rfl
  have hl : M = [] := List.length_eq_zero_iff.1 hm
  subst hl;refine ⟨v, w, run_append_owned_none w base S ty T i0 k R.und hi v n _ hA, ?_, World.grownBy.refl w _, by simp⟩
  simpa using hA
 | some ad =>
  obtain ⟨g, o, sp⟩ := ad
  have hsp : sp = none := hpl _ rfl
  subst hsp;obtain ⟨v', w', h4, h5, h6, h7, _⟩ := run_append_own_at (P := P) w base S ty T i0 z k b R.und hi hz hs hb0 hzs R.pos v n (cellsK enc L) hA ⟨g, o, none⟩ m cap (cellsK enc M) (by rw [cellsK_len R.len, hm])
   (fun j u hu => by rw [Addr.add_mid]; exact rowK_cells R.len hM j u hu) (cellsK_oneCell R.one M) h63 hby hbase
  exact ⟨v', w', h4, by rw [cellsK_app]; exact h5, h6, h7⟩
theorem RowTy.run_append_at (R : RowTy P val enc k b S T) {w : World} (ty : TypeId) {base n : Nat} {v : Value} {L : List α} (hA : w.ownsRow base T k v n (cellsK enc L)) {a : Option Addr} {m cap : Nat} {M : List α} (hm : M.length = m) (hM : RowK enc k w a M) (hnil : a = none -> m = 0 /\ cap = 0) (hpl : ∀ p, a = some p -> p.spot = none)
  (h63 : n + m <= maxLen) (hby : (n + m) * b <= 140737488355328) (hbase : base <= w.heap.size) :
  ∃ v' w', (Builtin.append_ #[S, S] ty #[v, .slice a m cap]).run P w = .ok v' w' /\ w'.ownsRow base T k v' (n + m) (cellsK enc (L ++ M)) /\ w.grownBy w' v.ownBlock /\ (v' = .slice none 0 0 ↔ v = .slice none 0 0 /\ m = 0) /\ (v'.ownBlock = v.ownBlock \/ v'.ownBlock = some w.heap.size) := by
 obtain ⟨i0, z, hi, hz, hs, hb0, hzs⟩ := R.parts
 cases a with
 | none =>
  obtain ⟨rfl, rfl⟩ := hnil rfl
  have hl : M = [] := List.length_eq_zero_iff.1 hm
  subst hl;refine ⟨v, w, run_append_owned_none w base S ty T i0 k R.und hi v n _ hA, ?_, World.grownBy.refl w _, by simp, .inl rfl⟩
  simpa using hA
 | some ad =>
  obtain ⟨g, o, sp⟩ := ad
  have hsp : sp = none := hpl _ rfl
  subst hsp;obtain ⟨v', w', h4, h5, h6, h7, h8⟩ := run_append_own_at (P := P) w base S ty T i0 z k b R.und hi hz hs hb0 hzs R.pos v n (cellsK enc L) hA ⟨g, o, none⟩ m cap (cellsK enc M) (by rw [cellsK_len R.len, hm])
   (fun j u hu => by rw [Addr.add_mid]; exact rowK_cells R.len hM j u hu) (cellsK_oneCell R.one M) h63 hby hbase
  exact ⟨v', w', h4, by rw [cellsK_app]; exact h5, h6, h7, h8⟩
theorem RowTy.wpList_append_at (R : RowTy P val enc k b S T) {w : World} {ops : Array Oper} {rest : List Oper} {o : Oper} {A : Act} {Q : Exit -> Act -> World -> Prop} (hgd : o.guard = none) (s x : Operand)
  (ho : o.op = .call { callee := .builtin .append, args := #[s, x], argTypes := #[S, S] }) {base n : Nat} {v : Value} {L : List α} (hs : A.eval s = v) (hA : w.ownsRow base T k v n (cellsK enc L))
  {a : Option Addr} {m cap : Nat} {M : List α} (hx : A.eval x = .slice a m cap) (hm : M.length = m) (hM : RowK enc k w a M) (hnil : a = none -> m = 0 /\ cap = 0) (hpl : ∀ p, a = some p -> p.spot = none) (h63 : n + m <= maxLen) (hby : (n + m) * b <= 140737488355328) (hbase : base <= w.heap.size)
  (h : ∀ v' w', w'.ownsRow base T k v' (n + m) (cellsK enc (L ++ M)) -> w.grownBy w' v.ownBlock -> (v' = .slice none 0 0 ↔ v = .slice none 0 0 /\ m = 0) -> (v'.ownBlock = v.ownBlock \/ v'.ownBlock = some w.heap.size) -> wpList P ops Q rest (A.put o.dst v') w') : wpList P ops Q (o :: rest) A w :=
 wpList_plain hgd fun _ hK => by
  obtain ⟨v', w', h1, h2, h3, h4, h5⟩ := R.run_append_at o.type hA hm hM hnil hpl h63 hby hbase
  unfold Oper.wp execOp
  simp only [ho, resolve, invoke, builtin, Sem.run_bind, Sem.run_pure, Result.andThen_ok, List.map_toArray, List.map_cons, List.map_nil, hs, hx, h1]
  exact hK _ _ (h v' w' h2 h3 h4 h5)
theorem foldl_set (off : Nat) : ∀ (l : List Value) (n : Nat) (B : Array Value), off + n + l.length <= B.size ->
  ∀ i, ((l.zipIdx n).foldl (fun (cs : Array Value) (p : Value × Nat) => cs.setIfInBounds (off + p.2) p.1) B)[i]? = if off + n <= i /\ i < off + n + l.length then l[i - (off + n)]? else B[i]?
 | [], n, B, h, i => by simp only [List.zipIdx_nil, List.foldl_nil, List.length_nil]; rw [if_neg (by omega)]
 | x :: xs, n, B, h, i => by
  rw [List.zipIdx_cons, List.foldl_cons, foldl_set off xs (n + 1) _ (by simp at h ⊢; omega) i, Array.getElem?_setIfInBounds]
  simp only [List.length_cons] at h ⊢
  by_cases h1 : i = off + n
  ·subst h1
   rw [if_neg (by omega), if_pos rfl, if_pos (by omega), if_pos (by omega)]
   simp
  ·by_cases h2 : off + (n + 1) <= i /\ i < off + (n + 1) + xs.length
   ·rw [if_pos h2, if_pos (by omega), show i - (off + n) = (i - (off + (n + 1))) + 1 by omega, List.getElem?_cons_succ]
   ·rw [if_neg h2, if_neg (Ne.symm h1), if_neg (by omega)]
theorem fill_one {v : Value} {A B : Array Value} (hv : v.cells = A) (hA : A.size = k) (hB : B.size = k) : Instr.fill (fun i => some (i * k, k)) B [(0, v)] = some A := by
 unfold Instr.fill
 simp only [hv, Nat.zero_mul]
 rw [if_neg (by simp [hA, hB])]
 unfold Instr.fill
 congr 1
 apply Array.ext_getElem?
 intro i;have h := foldl_set 0 A.toList 0 B (by simp [hA, hB]) i
 rw [<- Array.foldl_toList, Array.toList_zipIdx]
 refine h.trans ?_
 by_cases hi : i < A.size
 ·rw [if_pos (by simp; exact hi)]; simp
 ·rw [if_neg (by simp; omega), Array.getElem?_eq_none (by omega), Array.getElem?_eq_none (by omega)]
theorem RowTy.wp_build (R : RowTy P val enc k b S T) {w : World} {o : Oper} {A : Act} {K : Act -> World -> Prop} {Q : Exit -> Act -> World -> Prop} (hk24 : k <= 2 ^ 24) (x : Operand) (ho : o.op = .buildSlice S 1 #[(0, x)])
  {p : α} (hx : A.eval x = val p) (h : K (A.put o.dst (.slice (some ⟨w.heap.size, 0, none⟩) 1 1)) (w.alloc (.cells (enc p).toArray T))) : o.wp P A w K Q := by
 obtain ⟨i0, z, hi, hz, hs, hb0, hzs⟩ := R.parts
 have hp := R.pos
 refine wp_buildSlice S T 1 _ ho (enc p).toArray i0 z R.und hi hz (by rw [hs]; omega) (by rw [hs]; omega) ?_ h
 rw [hs];rw [show (Array.map (fun x : Nat × Operand => match x with | (i, x) => (i, A.eval x)) #[(0, x)]).toList = [(0, A.eval x)] by simp, hx]
 exact fill_one (R.cells p) (by simp [R.len]) (by simp)
theorem RowTy.run_build (R : RowTy P val enc k b S T) {w : World} (E : Operand -> Value) (o : Oper) (hk24 : k <= 2 ^ 24) (x : Operand) (ho : o.op = .buildSlice S 1 #[(0, x)]) {p : α} (hx : E x = val p) :
  (execOp E o).run P w = .ok (.value (.slice (some ⟨w.heap.size, 0, none⟩) 1 1)) (w.alloc (.cells (enc p).toArray T)) := by
 obtain ⟨i0, z, hi, hz, hs, hb0, hzs⟩ := R.parts
 have hp := R.pos
 unfold execOp;simp only [ho, Sem.run_bind]
 rw [run_buildSlice w S T 1 _ (enc p).toArray i0 z R.und hi hz (by rw [hs]; omega) (by rw [hs]; omega) (by
  rw [hs];rw [show (Array.map (fun x : Nat × Operand => match x with | (i, x) => (i, E x)) #[(0, x)]).toList = [(0, E x)] by simp, hx]
  exact fill_one (R.cells p) (by simp [R.len]) (by simp))]
 rfl
theorem RowTy.wpList_build (R : RowTy P val enc k b S T) {w : World} {ops : Array Oper} {rest : List Oper} {o : Oper} {A : Act} {Q : Exit -> Act -> World -> Prop} (hk24 : k <= 2 ^ 24) (hgd : o.guard = none) (x : Operand) (ho : o.op = .buildSlice S 1 #[(0, x)])
  {p : α} (hx : A.eval x = val p) (h : wpList P ops Q rest (A.put o.dst (.slice (some ⟨w.heap.size, 0, none⟩) 1 1)) (w.alloc (.cells (enc p).toArray T))) : wpList P ops Q (o :: rest) A w :=
 wpList_plain hgd fun _ hK => R.wp_build hk24 x ho hx (hK _ _ h)
theorem rowK_one {w : World} {g : Nat} {p : α} {t : TypeId} {z : Nat × Nat} (hk : ∀ x, (enc x).length = k) (h : w.heap[g]? = some (.cells (enc p).toArray t z)) : RowK enc k w (some ⟨g, 0, none⟩) [p] :=
 rowK_blk hk h fun j u hu => by rw [cellsK_one] at hu; simpa using hu
theorem RowTy.elem (R : RowTy P val enc k b S T) : P.elem S = T := by
 unfold Program.elem; rw [R.und]
theorem RowTy.sizeOf (R : RowTy P val enc k b S T) (w : World) : (Go.sizeOf T).run P w = .ok k w := by
 obtain ⟨i0, z, hi, hz, hs, hb0, hzs⟩ := R.parts
 simp [Go.sizeOf, typeInfo, hi, hs]
def subK (k : Nat) (a : Option Addr) (c l : Nat) : Option Addr := if c = l then a else a.map (·.add (l * k))
theorem RowTy.run_subH (R : RowTy P val enc k b S T) (w : World) (a : Option Addr) (n c h : Nat) (hh : h <= c) : (Instr.sliceAt S (.slice a n c) none (some (.int .i64 (h : Int))) none).run P w = .ok (.slice a h c) w := by
 have hu : P.underlying S = some (.slice (P.elem S)) := by rw [R.elem]; exact R.und
 rw [run_sliceAt_slice (P := P) w S _ _ _ _ hu, run_slice_h w S a n c hu .i64 (h : Int) (by omega) (by omega), R.elem, R.sizeOf]
 simp only [Result.andThen, sliced, Int.toNat_natCast, Nat.zero_mul, Nat.sub_zero]
 congr 2
 split
 ·rfl
 ·cases a with
  | none => rfl
  | some p => simp [Addr.add]
theorem RowK.sub {w : World} {a : Option Addr} {L : List α} (h : RowK enc k w a L) {c l : Nat} (hc : L.length <= c) : RowK enc k w (subK k a c l) (L.drop l) := by
 unfold subK
 split
 ·next e => subst e; rw [List.drop_eq_nil_of_le hc]; exact RowK.nil _ _
 ·intro i x hx
  obtain ⟨g, o, rfl, _⟩ := h _ x (by rw [List.getElem?_drop] at hx; exact hx)
  rw [Option.map_some, Addr.add_mid]
  exact (RowK.drop h l) i x hx
theorem RowTy.wpList_subH (R : RowTy P val enc k b S T) {w : World} {ops : Array Oper} {rest : List Oper} {o : Oper} {A : Act} {Q : Exit -> Act -> World -> Prop} (hgd : o.guard = none) (x y : Operand) (ho : o.op = .slice S x none (some y) none) {a : Option Addr} {n c h : Nat} (hx : A.eval x = .slice a n c) (hy : A.eval y = .int .i64 (h : Int)) (hh : h <= c)
  (hK : wpList P ops Q rest (A.put o.dst (.slice a h c)) w) : wpList P ops Q (o :: rest) A w :=
 wpList_plain hgd fun _ hk => by
  unfold Oper.wp execOp
  simp only [ho, hx, hy, Option.map_some, Option.map_none, Sem.run_bind, R.run_subH w a n c h hh, Result.andThen_ok]
  exact hk _ _ hK
end
abbrev BSet := Nat -> Prop
structure Chg (S : BSet) (w w' : World) : Prop where
 os : w'.os = w.os
 tape : w'.tape = w.tape
 output : w'.output = w.output
 size : w.heap.size <= w'.heap.size
 block : ∀ k, k < w.heap.size -> ¬ S k -> w'.heap[k]? = w.heap[k]?
theorem Chg.refl (S : BSet) (w : World) : Chg S w w := ⟨rfl, rfl, rfl, Nat.le_refl _, fun _ _ _ => rfl⟩
theorem Chg.mono {S S' : BSet} {a b : World} (h : Chg S a b) (hs : ∀ k, k < a.heap.size -> S k -> S' k) : Chg S' a b := ⟨h.os, h.tape, h.output, h.size, fun k hk hn => h.block k hk (fun hS => hn (hs k hk hS))⟩
theorem Chg.trans {S S' : BSet} {a b c : World} (h : Chg S a b) (k : Chg S' b c) (hs : ∀ i, S' i -> S i \/ a.heap.size <= i) : Chg S a c :=
 ⟨k.os.trans h.os, k.tape.trans h.tape, k.output.trans h.output, Nat.le_trans h.size k.size, fun i hi hn => by
  refine (k.block i (Nat.lt_of_lt_of_le hi h.size) fun hS' => ?_).trans (h.block i hi hn)
  rcases hs i hS' with h' | h'
  ·exact hn h'
  ·omega⟩
theorem Chg.trans' {S : BSet} {a b c : World} (h : Chg S a b) (k : Chg S b c) : Chg S a c := h.trans k fun i hi => .inl hi
theorem Chg.of_below {S : BSet} {a b : World} (h : Below a.heap.size a b) : Chg S a b := ⟨h.os, h.tape, h.output, h.size, fun k hk _ => h.block k hk⟩
theorem Chg.below {S : BSet} {a b : World} (h : Chg S a b) {B : Nat} (hB : B <= a.heap.size) (hS : ∀ k, S k -> B <= k) : Below B a b :=
 ⟨h.os, h.tape, h.output, h.size, fun k hk => h.block k (Nat.lt_of_lt_of_le hk hB) (fun hs => absurd (hS k hs) (by omega))⟩
theorem Chg.below_none {a b : World} (h : Chg (fun _ => False) a b) : Below a.heap.size a b := h.below (Nat.le_refl _) (fun _ hk => hk.elim)
theorem Chg.alloc (S : BSet) (w : World) (o : Obj) : Chg S w (w.alloc o) := .of_below ((Below.refl _ _).alloc (Nat.le_refl _) _)
theorem Chg.drew (S : BSet) (w : World) : Chg S w w.drew := .of_below (Below.refl _ _).drew
theorem Chg.drewN (S : BSet) (w : World) (n : Nat) : Chg S w (w.drewN n) := ⟨rfl, rfl, rfl, Nat.le_refl _, fun _ _ _ => rfl⟩
theorem Chg.setCell {S : BSet} (w : World) (b j : Nat) (v : Value) (hb : S b) : Chg S w (w.setCell ⟨b, j, none⟩ v) :=
 ⟨rfl, rfl, rfl, by simp [World.setCell], fun k _ hk => Below.heap_setCell _ _ _ _ (fun e => hk (by rw [e]; exact hb))⟩
theorem Chg.setRow {S : BSet} (w : World) (b : Nat) (cs : Array Value) (hb : S b) : Chg S w (w.setRow b cs) := by
 refine ⟨rfl, rfl, rfl, by simp [World.setRow], fun k _ hk => ?_⟩
 have hne : b ≠ k := fun e => hk (by rw [<- e]; exact hb)
 simp [World.setRow, Array.getElem?_modify, hne]
theorem Chg.grown {S : BSet} {a b : World} {row : Option Nat} (h : a.grownBy b row) (hr : ∀ k, row = some k -> k < a.heap.size -> S k) : Chg S a b :=
 ⟨h.os, h.tape, h.output, h.size, fun k hk hn => h.block k hk (fun e => hn (hr k e.symm hk))⟩
structure On (S : BSet) (P : World -> Prop) (w : World) : Prop where
 holds : P w
 lt : ∀ k, S k -> k < w.heap.size
 keep : ∀ w', (∀ k, S k -> w'.heap[k]? = w.heap[k]?) -> P w'
theorem On.same {S : BSet} {P : World -> Prop} {w w' : World} (h : On S P w) (he : ∀ k, S k -> w'.heap[k]? = w.heap[k]?) : On S P w' :=
 ⟨h.keep w' he, fun k hk => by
  have h1 := (he k hk).trans (Array.getElem?_eq_getElem (h.lt k hk))
  exact (Array.getElem?_eq_some_iff.1 h1).1, fun w'' h'' => h.keep w'' fun k hk => (h'' k hk).trans (he k hk)⟩
theorem On.chg {S S' : BSet} {P : World -> Prop} {w w' : World} (h : On S P w) (hc : Chg S' w w') (hd : ∀ k, S k -> ¬ S' k) : On S P w' :=
 h.same fun k hk => hc.block k (h.lt k hk) (hd k hk)
theorem On.below {S : BSet} {P : World -> Prop} {w w' : World} (h : On S P w) (hb : Below w.heap.size w w') : On S P w' :=
 h.same fun k hk => hb.block k (h.lt k hk)
theorem On.imp {S : BSet} {P Q : World -> Prop} {w : World} (h : On S P w) (hq : ∀ w, P w -> Q w) : On S Q w := ⟨hq _ h.holds, h.lt, fun w' he => hq _ (h.keep w' he)⟩
theorem On.and {S S' : BSet} {P Q : World -> Prop} {w : World} (h : On S P w) (k : On S' Q w) : On (fun i => S i \/ S' i) (fun w => P w /\ Q w) w :=
 ⟨⟨h.holds, k.holds⟩, fun i hi => hi.elim (h.lt i) (k.lt i), fun w' he => ⟨h.keep w' fun i hi => he i (.inl hi), k.keep w' fun i hi => he i (.inr hi)⟩⟩
theorem On.mono {S S' : BSet} {P : World -> Prop} {w : World} (h : On S P w) (hs : ∀ k, S k -> S' k) (hl : ∀ k, S' k -> k < w.heap.size) : On S' P w :=
 ⟨h.holds, hl, fun w' he => h.keep w' fun k hk => he k (hs k hk)⟩
theorem On.pure {P : Prop} (h : P) (w : World) : On (fun _ => False) (fun _ => P) w := ⟨h, fun _ hk => hk.elim, fun _ _ => h⟩
theorem On.block {w : World} {k : Nat} {o : Obj} (h : w.heap[k]? = some o) : On (· = k) (fun w => w.heap[k]? = some o) w :=
 ⟨h, fun i hi => by rw [hi]; exact (Array.getElem?_eq_some_iff.1 h).1, fun w' he => (he k rfl).trans h⟩
theorem On.of_block {P : World -> Prop} {w : World} {k : Nat} (hk : k < w.heap.size) (h : ∀ w', w'.heap[k]? = w.heap[k]? -> P w') : On (· = k) P w :=
 ⟨h w rfl, fun i hi => by rw [hi]; exact hk, fun w' he => h w' (he k rfl)⟩
theorem cell_block {w w' : World} {k : Nat} (h : w'.heap[k]? = w.heap[k]?) (o : Nat) : w'.cell? ⟨k, o, none⟩ = w.cell? ⟨k, o, none⟩ := by simp [World.cell?, h]
theorem On.row {α : Type} {enc : α -> List Value} {k : Nat} {w : World} {g o : Nat} {L : List α} (h : RowK enc k w (some ⟨g, o, none⟩) L) (hg : g < w.heap.size) : On (· = g) (fun w => RowK enc k w (some ⟨g, o, none⟩) L) w :=
 .of_block hg fun w' he => h.keep he
theorem On.own {w : World} {base : Nat} {T : TypeId} {k n : Nat} {v : Value} {xs : List Value} (h : w.ownsRow base T k v n xs) : On (fun i => v.ownBlock = some i) (fun w => w.ownsRow base T k v n xs) w := by
 refine ⟨h, fun i hi => (h.lt i hi).2, fun w' he => ⟨h.1, ?_⟩⟩
 rcases h.2 with h1 | ⟨g, cap, cur, h1, h2, h3, h4⟩
 ·exact .inl h1
 ·exact .inr ⟨g, cap, cur, h1, h2, (he g (by rw [h1]; rfl)).trans h3, h4⟩
def bA (l : List Nat) : Array Value := (l.map fun (n : Nat) => Value.int .u8 (n : Int)).toArray
theorem bA_get (l : List Nat) (k : Nat) (h : k < l.length) : (bA l)[k]? = some (.int .u8 ((l.getD k 0 : Nat) : Int)) := by
 unfold bA; simp [h]
theorem bA_size (l : List Nat) : (bA l).size = l.length := by simp [bA]
theorem bA_set (l : List Nat) (k n : Nat) : (bA l).setIfInBounds k (.int .u8 (n : Int)) = bA (l.set k n) := by
 unfold bA; simp [List.map_set]
theorem equalIn_bytes (P : Program) (d n : Nat) (t e : TypeId) (i0 : TypeInfo) (ht : P.underlying t = some (.array n e)) (he : P.underlying e = some (.int .u8)) (hp : P.plainKey e = true) (hi : P.info? e = some i0) (hs : P.cellsOf e = 1)
  (xs ys : List Nat) (hx : xs.length = n) (hy : ys.length = n) (w : World) :
  (Op.equalIn (d + 2) t (.agg (bA xs)) (.agg (bA ys))).run P w = .ok (decide (xs = ys)) w := by
 have hE : ∀ (a b : Int) (w : World), (Op.equalIn (d + 1) e (.int .u8 a) (.int .u8 b)).run P w = .ok (a == b) w := fun a b w => run_equalIn_int w d e .u8 .u8 a b he
 show (Op.equalIn ((d + 1) + 1) t _ _).run P w = _
 generalize d + 1 = D at *
 simp only [Op.equalIn, Sem.run_bind, run_underlying ht, Result.andThen_ok]
 rw [run_sizeOf (w := w) hi, hs]
 simp only [Result.andThen_ok]
 rw [Std.Legacy.Range.forIn_eq_forIn_range'];simp only [Std.Legacy.Range.size, Nat.sub_zero, Nat.add_one_sub_one, Nat.div_one]
 have key : ∀ (m k : Nat), k + m = n -> xs.take k = ys.take k ->
   ((forIn (List.range' k m) ((none : Option Bool), ()) fun i _ => do
    let a <- part e (bA xs) (i * 1)
    let b <- part e (bA ys) (i * 1)
    let c <- Op.equalIn D e a b
    if (!c) = true then pure (ForInStep.done (some false, ())) else pure (ForInStep.yield ((none : Option Bool), ())) : Sem (Option Bool × Unit)).run P w)
    = .ok (if xs = ys then none else some false, ()) w := by
  intro m
  induction m with
  | zero =>
   intro k hk ht;have : xs = ys := by rw [List.take_of_length_le (by omega), List.take_of_length_le (by omega)] at ht; exact ht
   simp [this]
  | succ m ih =>
   intro k hk ht;have hkx : k < xs.length := by omega
   have hky : k < ys.length := by omega
   have h1 := run_part_plain (w := w) hp (bA_get xs k hkx)
   have h2 := run_part_plain (w := w) hp (bA_get ys k hky)
   simp only [List.range'_succ, List.forIn_cons, Nat.mul_one] at *
   simp only [Sem.run_bind, h1, h2, Result.andThen_ok, hE]
   by_cases hh : xs.getD k 0 = ys.getD k 0
   ·have := ih (k + 1) (by omega) (by
     rw [List.take_succ_eq_append_getElem hkx, List.take_succ_eq_append_getElem hky, ht]
     simp [hkx, hky] at hh
     rw [hh])
    rw [hh];simpa using this
   ·have hne : xs ≠ ys := fun h => hh (by rw [h])
    have hb : (((xs.getD k 0 : Nat) : Int) == ((ys.getD k 0 : Nat) : Int)) = false := by rw [beq_eq_false_iff_ne]; omega
    rw [hb];simp [hne]
 have := key n 0 (by omega) rfl
 rw [this]
 by_cases h : xs = ys <;> simp [h]
open Go.ChangeShapes Go.WideShapes
def IsRow (k : IntKind) (w : World) (a : Option Addr) (len cap : Nat) (zs : List Int) : Prop :=
 (a = none /\ len = 0 /\ cap = 0 /\ zs = []) \/
 ∃ p : Addr, a = some p /\ len <= cap /\ cap <= maxLen /\ zs.length = cap /\ (∀ i, i < zs.length -> w.cell? (p.add i) = some (.int k (zs.getD i 0))) /\ (∀ n ∈ zs, (Lit.int k n).wf = true)
def RowIn (w : World) (v : Value) (l : List Nat) : Prop :=
 (∀ x ∈ l, x < 256) /\ ((v = .slice none 0 0 /\ l = []) \/
 ∃ g o cap sp, v = .slice (some ⟨g, o, sp⟩) l.length cap /\ l.length <= cap /\ cap <= maxLen /\ (0 < l.length -> sp = none /\ g < w.heap.size) /\ ∀ j, j < l.length -> w.cell? ⟨g, o + j, none⟩ = some (.int .u8 ((l.getD j 0 : Nat) : Int)))
theorem rowIn {w : World} {a : Option Addr} {len cap : Nat} {zs : List Int} (h : IsRow .u8 w a len cap zs) : ∃ l, l.length = len /\ RowIn w (.slice a len cap) l := by
 rcases h with ⟨rfl, rfl, rfl, _⟩ | ⟨⟨g, o, sp⟩, rfl, hl, hm, hz, hc, hw⟩
 ·exact ⟨[], rfl, by simp, .inl ⟨rfl, rfl⟩⟩
 ·have hlen : ((zs.take len).map Int.toNat).length = len := by simp; omega
  have hwf : ∀ i, i < zs.length -> 0 <= zs.getD i 0 /\ zs.getD i 0 < 256 := fun i hi => by
   have := hw _ (List.getElem_mem (l := zs) (h := hi))
   rw [List.getD_eq_getElem?_getD, List.getElem?_eq_getElem hi]
   simp [Lit.wf, IntKind.min, IntKind.max, IntKind.signed, IntKind.bits] at this
   simp; omega
  have hget : ∀ j, j < len -> ((((zs.take len).map Int.toNat).getD j 0 : Nat) : Int) = zs.getD j 0 := fun j hj => by
   have h1 := hwf j (by omega)
   rw [List.getD_eq_getElem?_getD, List.getElem?_map, List.getElem?_take_of_lt hj, List.getElem?_eq_getElem (by omega)]
   rw [List.getD_eq_getElem?_getD, List.getElem?_eq_getElem (by omega)] at h1
   rw [List.getD_eq_getElem?_getD, List.getElem?_eq_getElem (by omega)]
   simp at h1 ⊢
   omega
  have hcell : ∀ j, j < len -> w.cell? ⟨g, o + j, none⟩ = some (.int .u8 (zs.getD j 0)) := fun j hj => by
   have := hc j (by omega)
   by_cases h0 : j = 0
   ·subst h0
    simp only [Addr.add, if_true] at this
    have hs : sp = none := by
     unfold World.cell? at this
     split at this
     ·cases sp with
      | none => rfl
      | some x => simp at this
     ·cases this
    subst hs;exact this
   ·simp only [Addr.add, if_neg h0] at this
    exact this
  refine ⟨(zs.take len).map Int.toNat, hlen, fun x hx => ?_, .inr ⟨g, o, cap, sp, by rw [hlen], by rw [hlen]; exact hl, hm, fun h0 => ?_, fun j hj => ?_⟩⟩
  ·simp only [List.mem_map] at hx
   obtain ⟨y, hy, rfl⟩ := hx
   have := hw y (List.mem_of_mem_take hy)
   simp [Lit.wf, IntKind.min, IntKind.max, IntKind.signed, IntKind.bits] at this
   omega
  ·rw [hlen] at h0
   have h1 := hc 0 (by omega)
   simp only [Addr.add, if_true] at h1
   unfold World.cell? at h1
   split at h1
   ·rename_i hh
    refine ⟨?_, lt_of_block hh⟩
    cases sp with
    | none => rfl
    | some x => simp at h1
   ·cases h1
  ·rw [hlen] at hj
   rw [hget j hj]
   exact hcell j hj
theorem heap_new' (w : World) (o : Obj) : (w.alloc o).heap[w.heap.size]? = some o := by
 show (w.heap.push _)[_]? = _
 simp
theorem heap_old' (w : World) (o : Obj) (k : Nat) (h : k < w.heap.size) : (w.alloc o).heap[k]? = w.heap[k]? := Below.heap_alloc w o k h
theorem cells_at {w : World} {b : Nat} {A : Array Value} {t : TypeId} {z : Nat × Nat} (h : w.heap[b]? = some (.cells A t z)) (o : Nat) : w.cell? ⟨b, o, none⟩ = A[o]? := by simp [World.cell?, h]
theorem free_at {w : World} {b : Nat} {A : Array Value} {t : TypeId} (h : w.heap[b]? = some (.cells A t (0, 0))) (o : Nat) : w.frozen? ⟨b, o, none⟩ = false := by simp [World.frozen?, h]
theorem block_at {w : World} {b : Nat} {A : Array Value} {t : TypeId} {z : Nat × Nat} (h : w.heap[b]? = some (.cells A t z)) (o : Nat) (v : Value) :
  (w.setCell ⟨b, o, none⟩ v).heap[b]? = some (.cells (A.setIfInBounds o v) t z) := by
 simp [World.setCell, Array.getElem?_modify, h]
def upB (v k : Nat) : Nat := v / 2 ^ (8 * k) % 256
theorem up_c (n v k : Nat) (hv : v < 18446744073709551616) (hk : k < 8) (K : Int) (hK : K = k) (w : World) :
  Calls Tryz.prog 78 #[.agg #[.int .i64 (n : Int), .int .u64 (v : Int)], .int .i64 K] w fun e w' => e = .returned (.int .u8 ((upB v k : Nat) : Int)) /\ Below w.heap.size w w' := by
 subst hK
 go_enter Tryz.func78, Tryz.ntmps78
 go_wp2
 go_ret
 exact ⟨ret_i (by unfold upB; simp), (Below.refl _ _).alloc (Nat.le_refl _) _⟩
theorem down_c (n v k : Nat) (hv : v < 18446744073709551616) (hn : n <= 8) (hk : k < n) (K : Int) (hK : K = k) (w : World) :
  Calls Tryz.prog 58 #[.agg #[.int .i64 (n : Int), .int .u64 (v : Int)], .int .i64 K] w fun e w' => e = .returned (.int .u8 ((upB v (n - 1 - k) : Nat) : Int)) /\ Below w.heap.size w w' := by
 subst hK
 have hb : Below w.heap.size w (w.alloc (Obj.cells #[Value.int IntKind.i64 ↑n, Value.int IntKind.u64 ↑v] 140)) := (Below.refl _ _).alloc (Nat.le_refl _) _
 have HB := Lib.hid hb;clear hb
 go_enter Tryz.func58, Tryz.ntmps58
 go_wp2_with (go_at_call 78; (with_reducible refine (up_c n v (n - 1 - k) hv (by omega) _ (by omega) _).mono ?_); rintro e w1 ⟨rfl, hb1⟩)
 go_ret
 exact ⟨rfl, HB.out.trans (hb1.mono (by simp))⟩
def highB (n v : Nat) : List Nat := (List.range n).map fun k => upB v (n - 1 - k)
theorem highB_len (n v : Nat) : (highB n v).length = n := by simp [highB]
theorem highB_get (n v k : Nat) (h : k < n) : (highB n v).getD k 0 = upB v (n - 1 - k) := by simp [highB, h]
def partB (l : List Nat) (k : Nat) : List Nat := l.take k ++ List.replicate (l.length - k) 0
theorem partB_len (l : List Nat) (k : Nat) (h : k <= l.length) : (partB l k).length = l.length := by simp [partB]; omega
theorem partB_zero (l : List Nat) : partB l 0 = List.replicate l.length 0 := by simp [partB]
theorem partB_full (l : List Nat) : partB l l.length = l := by simp [partB]
theorem partB_set (l : List Nat) (k : Nat) (h : k < l.length) : (partB l k).set k (l.getD k 0) = partB l (k + 1) := by
 apply List.ext_getElem
 ·simp [partB]; omega
 ·intro i h1 h2
  simp only [partB, List.getElem_set, List.getElem_append, List.getElem_take, List.getElem_replicate, List.length_take]
  by_cases e : k = i
  ·subst e
   rw [if_pos rfl, dif_pos (by omega)]; simp [h]
  ·rw [if_neg e]
   by_cases h3 : i < k
   ·rw [dif_pos (by omega), dif_pos (by omega)]
   ·rw [dif_neg (by omega), dif_neg (by omega)]
theorem u8info : (Tryz.prog.info? 5).map (fun i => (i.zero, i.size, i.bytes)) = some (some (.int .u8 0), 1, 1) := by kernel_rfl
theorem mk_bytes (n : Nat) (hn : n <= 140737488355328) (w : World) :
  (Instr.makeSlice 22 (.int .i64 (n : Int)) (.int .i64 (n : Int))).run Tryz.prog w = .ok (.slice (some ⟨w.heap.size, 0, none⟩) n n) (w.alloc (.cells (bA (List.replicate n 0)) 5)) := by
 have h := run_make_row' (P := Tryz.prog) 22 5 (.int .u8 0) 1 Tryz.underlying22 u8info rfl .i64 .i64 n (by omega) (by omega) w
 rw [h];have e : madeCells #[Value.int .u8 0] n = bA (List.replicate n 0) := by
  apply Array.toList_inj.1
  rw [toList_madeCells_one]; simp [bA]
 rw [e]
theorem bytes_c (n v : Nat) (hv : v < 18446744073709551616) (h1 : 1 <= n) (hn : n <= 8) (w : World) :
  Calls Tryz.prog 57 #[.agg #[.int .i64 (n : Int), .int .u64 (v : Int)], .func (.func 58) #[.agg #[.int .i64 (n : Int), .int .u64 (v : Int)]] #[]] w
   fun e w' => ∃ b, e = .returned (.slice (some ⟨b, 0, none⟩) n n) /\ w.heap.size <= b /\ b < w'.heap.size /\ w'.heap[b]? = some (.cells (bA (highB n v)) 5 (0, 0)) /\ Below w.heap.size w w' := by
 have hmk := mk_bytes n (by omega)
 have hlo : ¬ (n : Int) < 1 := by omega
 have hhi : ¬ (8 : Int) < n := by omega
 have hl := highB_len n v
 have hs : ∀ o : Obj, ((w.alloc o).alloc (.cells (bA (List.replicate n 0)) 5)).heap[w.heap.size + 1]? = some (.cells (bA (partB (highB n v) 0)) 5 (0, 0)) := fun o => by
  rw [partB_zero, hl, show w.heap.size + 1 = (w.alloc o).heap.size by simp, heap_new']
 have HS := Lib.hid hs;have HL := Lib.hid hl;clear hs hl
 go_enter Tryz.func57, Tryz.ntmps57
 go_wp2
 go_loopw [20] (fun vi wr => ∃ k : Nat, k <= n /\ vi = .int .i64 k /\ Hid (wr.heap[w.heap.size + 1]? = some (.cells (bA (partB (highB n v) k)) 5 (0, 0))) /\ w.heap.size + 1 < wr.heap.size /\ Below w.heap.size w wr) (fun vi _ => n - (intOf vi).toNat)
 case atStart => exact ⟨0, by omega, rfl, HS.out _, by simp, (((Below.refl _ _).alloc (Nat.le_refl _) _).alloc (by simp) _)⟩
 case round =>
  obtain ⟨k, hk, rfl, hb, hz, hbel⟩ := hrel
  clear HS hmk
  by_cases hlt : k < n
  ·go_wp2_with (go_at_call 58; (with_reducible refine (down_c n v k hv hn hlt _ rfl _).mono ?_); rintro e w1 ⟨rfl, hb1⟩; have hB1 := (hb1.block (w.heap.size + 1) hz).trans hb.out; have hc1 := (cells_at hB1 k).trans (bA_get _ k (by rw [partB_len _ _ (by rw [HL.out]; omega), HL.out]; exact hlt)); have hf1 := free_at hB1 k; have HB1 := Lib.hid hB1; clear hB1)
   go_roundw
   case rel =>
    have h1 := block_at HB1.out k (.int .u8 ((upB v (n - 1 - k) : Nat) : Int))
    rw [bA_set, <- highB_get n v k hlt, partB_set _ _ (by rw [HL.out]; exact hlt)] at h1
    rw [highB_get n v k hlt] at h1
    exact ⟨k + 1, by omega, by go_num, h1, by have := hb1.size; simp [World.setCell]; omega, (hbel.trans (hb1.mono (by omega))).setCell (by simp) _⟩
   case measure => simp [intOf]; omega
  ·obtain rfl : k = n := by omega
   have h1 := hb.out
   have h2 := partB_full (highB k v)
   rw [HL.out] at h2;rw [h2] at h1;have H1 := Lib.hid h1;clear hb h1 h2;go_wp2
   go_ret
   exact ⟨_, rfl, by omega, hz, H1.out, hbel⟩
theorem high_c (n v : Nat) (hv : v < 18446744073709551616) (h1 : 1 <= n) (hn : n <= 8) (N V : Int) (hN : N = n) (hV : V = v) (w : World) :
  Calls Tryz.prog 40 #[.int .i64 N, .int .u64 V] w
   fun e w' => ∃ b, e = .returned (.slice (some ⟨b, 0, none⟩) n n) /\ w.heap.size <= b /\ b < w'.heap.size /\ w'.heap[b]? = some (.cells (bA (highB n v)) 5 (0, 0)) /\ Below w.heap.size w w' := by
 subst hN hV
 go_enter Tryz.func40, Tryz.ntmps40
 go_wp2_with fail
 refine (bytes_c n v hv h1 hn _).mono ?_
 rintro e w1 ⟨b, rfl, hb, hz, hB, hbel⟩
 have HB := Lib.hid hB;clear hB;go_wp2
 go_ret
 exact ⟨b, rfl, by simp at hb; omega, hz, HB.out, ((Below.refl _ _).alloc (Nat.le_refl _) _).trans (hbel.mono (by simp))⟩
end Go.Proofs.YtnmdjggdgakeoaaGreat
