/- Texts Free, RndG, ChK, ChP, ChQ, put together by pack.py. -/
import Derived.Test.YtpbmjfjnmcpieaaGreatCBa
import Derived.RangeFuncNested
import Derived.RangeFuncBound
import Derived.RangeFuncCalls
import Derived.RangeFuncLeaves
import Derived.Shelf.Abstract
import Derived.Shelf.RegionOpen
import Derived.WalkKit
import Derived.OwnWalkIn
import Derived.TacticsInMore
import Derived.LoopNIn
import Derived.LoopIn
import Derived.OrdersIn
import Derived.OrdersHeld
import Derived.Test.YtpbmjfjnmcpieaaGreatCBb
set_option maxRecDepth 100000
set_option maxHeartbeats 16000000
set_option linter.unusedVariables false
set_option linter.unusedSimpArgs false
namespace Go.Proofs.YtpbmjfjnmcpieaaGreat
open Go Go.RowKit
namespace Fre
section
variable {P : Program} {ops : Array Oper}
/-- an operation whose operands read E, in world w: it ends with a value and a world of R -/
def Does (P : Program) (E : Operand -> Value) (o : Oper) (w : World) (R : Value -> World -> Prop) : Prop :=
 match (execOp E o).run P w with
 | .ok (.value v) w' => R v w'
 | .ok .skip w' => R undef w'
 | .ok (.enter f args) w' => Calls P f args w' fun e w'' => ∃ v, e = .returned v /\ R v w''
 | _ => False
theorem Does.value {E : Operand -> Value} {o : Oper} {w w' : World} {v : Value} {R : Value -> World -> Prop} (h : (execOp E o).run P w = .ok (.value v) w') (hR : R v w') : Does P E o w R := by
 unfold Does; rw [h]; exact hR
theorem Does.skip {E : Operand -> Value} {o : Oper} {w w' : World} {R : Value -> World -> Prop} (h : (execOp E o).run P w = .ok .skip w') (hR : R undef w') : Does P E o w R := by
 unfold Does; rw [h]; exact hR
theorem Does.enter {E : Operand -> Value} {o : Oper} {w w' : World} {f : FuncId} {args : Array Value} {R : Value -> World -> Prop} (h : (execOp E o).run P w = .ok (.enter f args) w') (hR : Calls P f args w' fun e w'' => ∃ v, e = .returned v /\ R v w'') : Does P E o w R := by
 unfold Does; rw [h]; exact hR
theorem Does.wp {a : Act} {o : Oper} {w : World} {R : Value -> World -> Prop} {K : Act -> World -> Prop} {Q : Exit -> Act -> World -> Prop} (h : Does P a.eval o w R) (hK : ∀ v w', R v w' -> K (a.put o.dst v) w') : o.wp P a w K Q := by
 unfold Oper.wp
 unfold Does at h
 generalize (execOp a.eval o).run P w = r at *
 cases r with
 | halt x w' => cases x <;> exact h.elim
 | ok n w' =>
  cases n with
  | value v => exact hK _ _ h
  | skip => exact hK _ _ h
  | enter f args =>
   refine Calls.mono h ?_
   rintro e w'' ⟨v, rfl, hv⟩
   exact hK _ _ hv
  | _ => exact h.elim
def dstOf (ops : Array Oper) (j : Nat) : Option Tmp := (ops[j]?).bind (·.dst)
def Agree (ops : Array Oper) (a0 a : Act) (listed : Array Bool) (vs : Nat -> Value) : Prop :=
 a.defers = a0.defers /\ a.tmps.size = a0.tmps.size /\ (∀ j t, j < ops.size -> dstOf ops j = some t -> listed.getD j false = true -> a.tmps[t]? = some (vs j)) /\
  ∀ t, (∀ j, j < ops.size -> dstOf ops j = some t -> listed.getD j false = false) -> a.tmps[t]? = a0.tmps[t]?
/-- the temporaries behind the region -/
def finT (ops : Array Oper) (vs : Nat -> Value) (T : Array Value) : Nat -> Array Value
 | 0 => T
 | n + 1 => match dstOf ops n with
  | some d => (finT ops vs T n).setIfInBounds d (vs n)
  | none => finT ops vs T n
/-- no guards, no edge to what stands behind, destinations apart and in bounds -/
def fit (md : Region.Mode) (ops : Array Oper) (N : Nat) : Bool :=
 (List.range ops.size).all fun j => match ops[j]? with
  | none => false
  | some o => o.guard.isNone && (o.after.all fun e => !Region.binds md e || decide (e.on < j)) && (match o.dst with
   | none => true
   | some d => decide (d < N) && (List.range j).all fun k => dstOf ops k != some d)
structure Fits (md : Region.Mode) (ops : Array Oper) (N : Nat) : Prop where
 guard : ∀ (j : Nat) (o : Oper), ops[j]? = some o -> o.guard = none
 back : ∀ (j : Nat) (o : Oper) e, ops[j]? = some o -> e ∈ o.after -> Region.binds md e = true -> e.on < j
 inb : ∀ j d, dstOf ops j = some d -> d < N
 apart : ∀ j k d, j < ops.size -> k < ops.size -> dstOf ops j = some d -> dstOf ops k = some d -> j = k
theorem fits_of {md : Region.Mode} {N : Nat} (h : fit md ops N = true) : Fits md ops N := by
 have hj : ∀ (j : Nat) (o : Oper), ops[j]? = some o -> o.guard = none /\ (∀ e ∈ o.after, Region.binds md e = true -> e.on < j) /\ (∀ d, o.dst = some d -> d < N /\ ∀ k, k < j -> dstOf ops k ≠ some d) := by
  intro j o ho
  have hlt : j < ops.size := (Array.getElem?_eq_some_iff.1 ho).1
  unfold fit at h
  rw [List.all_eq_true] at h
  have h1 := h j (List.mem_range.2 hlt)
  simp only [ho, Bool.and_eq_true] at h1
  refine ⟨by simpa using h1.1.1, fun e he hb => ?_, fun d hd => ?_⟩
  ·have := h1.1.2
   rw [Array.all_eq_true_iff_forall_mem] at this
   have h3 := this e he
   rw [hb] at h3
   simpa using h3
  ·have h2 := h1.2
   rw [hd] at h2
   simp only [Bool.and_eq_true, decide_eq_true_eq, List.all_eq_true] at h2
   exact ⟨h2.1, fun k hk => by simpa using h2.2 k (List.mem_range.2 hk)⟩
 have hd : ∀ j d, dstOf ops j = some d -> ∃ o, ops[j]? = some o /\ o.dst = some d := by
  intro j d h
  unfold dstOf at h
  cases ho : ops[j]? with
  | none => rw [ho] at h; cases h
  | some o => rw [ho] at h; exact ⟨o, rfl, h⟩
 refine ⟨fun j o ho => (hj j o ho).1, fun j o e ho he hb => (hj j o ho).2.1 e he hb, fun j d h => ?_, fun j k d h1 h2 h3 h4 => ?_⟩
 ·obtain ⟨o, ho, hdd⟩ := hd j d h
  exact ((hj j o ho).2.2 d hdd).1
 ·obtain ⟨o, ho, hdd⟩ := hd j d h3
  obtain ⟨o', ho', hdd'⟩ := hd k d h4
  rcases Nat.lt_trichotomy j k with h | h | h
  ·exact absurd h3 (((hj k o' ho').2.2 d hdd').2 j h)
  ·exact h
  ·exact absurd h4 (((hj j o ho).2.2 d hdd).2 k h)
theorem finT_size (vs : Nat -> Value) (T : Array Value) : ∀ n, (finT ops vs T n).size = T.size := by
 intro n
 induction n with
 | zero => rfl
 | succ n ih => unfold finT; split <;> simp [ih]
theorem finT_get {md : Region.Mode} {N : Nat} (hf : Fits md ops N) (vs : Nat -> Value) (T : Array Value) (hN : T.size = N) : ∀ n, n <= ops.size -> ∀ t,
  (∀ j, j < n -> dstOf ops j = some t -> (finT ops vs T n)[t]? = some (vs j)) /\ ((∀ j, j < n -> dstOf ops j ≠ some t) -> (finT ops vs T n)[t]? = T[t]?) := by
 intro n
 induction n with
 | zero => intro _ t; exact ⟨fun j h => by omega, fun _ => rfl⟩
 | succ n ih =>
  intro hn t
  obtain ⟨ih1, ih2⟩ := ih (by omega) t
  unfold finT
  cases hd : dstOf ops n with
  | none =>
   refine ⟨fun j hj hjt => ?_, fun h => ih2 fun j hj => h j (by omega)⟩
   rcases Nat.lt_or_eq_of_le (Nat.le_of_lt_succ hj) with h | h
   ·exact ih1 j h hjt
   ·subst h; rw [hd] at hjt; cases hjt
  | some d =>
   simp only
   by_cases hdt : d = t
   ·subst hdt
    have hlt : d < (finT ops vs T n).size := by rw [finT_size, hN]; exact hf.inb n d hd
    refine ⟨fun j hj hjt => ?_, fun h => absurd hd (h n (by omega))⟩
    have : j = n := hf.apart j n d (by omega) (by omega) hjt hd
    subst this
    rw [Array.getElem?_setIfInBounds]; simp [hlt]
   ·have e : ((finT ops vs T n).setIfInBounds d (vs n))[t]? = (finT ops vs T n)[t]? := by
     rw [Array.getElem?_setIfInBounds]; simp [hdt]
    rw [e]
    refine ⟨fun j hj hjt => ?_, fun h => ih2 fun j hj => h j (by omega)⟩
    rcases Nat.lt_or_eq_of_le (Nat.le_of_lt_succ hj) with h | h
    ·exact ih1 j h hjt
    ·subst h; rw [hd] at hjt; cases hjt; exact absurd rfl hdt
theorem Agree.fin {md : Region.Mode} {N : Nat} (hf : Fits md ops N) {a0 a : Act} (hN : a0.tmps.size = N) {listed : Array Bool} {vs : Nat -> Value} (h : Agree ops a0 a listed vs) (hall : ∀ j, j < ops.size -> listed.getD j false = true) : a = ⟨finT ops vs a0.tmps ops.size, a0.defers⟩ := by
 obtain ⟨h1, h2, h3, h4⟩ := h
 obtain ⟨T, D⟩ := a
 simp only at h1 h2 h3 h4
 subst h1
 congr 1
 apply Array.ext_getElem?
 intro t
 obtain ⟨k1, k2⟩ := finT_get hf vs a0.tmps hN ops.size (Nat.le_refl _) t
 by_cases hx : ∃ j, j < ops.size /\ dstOf ops j = some t
 ·obtain ⟨j, hj, hd⟩ := hx
  rw [k1 j hj hd, h3 j t hj hd (hall j hj)]
 ·rw [k2 (fun j hj hd => hx ⟨j, hj, hd⟩)]
  exact h4 t fun j hj hd => absurd ⟨j, hj, hd⟩ hx
theorem Agree.step {md : Region.Mode} {N : Nat} (hf : Fits md ops N) {a0 a : Act} (hN : a0.tmps.size = N) {listed : Array Bool} {vs : Nat -> Value} (h : Agree ops a0 a listed vs) {i : Nat} (hi : i < ops.size) (hl : listed.size = ops.size) (hun : listed.getD i true = false) (v : Value) :
  Agree ops a0 (a.put (dstOf ops i) v) (listed.setIfInBounds i true) (fun j => if j = i then v else vs j) := by
 obtain ⟨h1, h2, h3, h4⟩ := h
 have hg : ∀ j, j ≠ i -> (listed.setIfInBounds i true).getD j false = listed.getD j false := fun j hj => by
  simp [Array.getD_eq_getD_getElem?, Array.getElem?_setIfInBounds, Ne.symm hj]
 have hgi : (listed.setIfInBounds i true).getD i false = true := by
  simp [Array.getD_eq_getD_getElem?, Array.getElem?_setIfInBounds, hl, hi]
 have hgf : ∀ j, j < ops.size -> listed.getD j false = listed.getD j true := fun j hj => by
  simp [Array.getD_eq_getD_getElem?, hl, hj]
 cases hd : dstOf ops i with
 | none =>
  refine ⟨h1, h2, fun j t hj hjt hlj => ?_, fun t ht => h4 t fun j hj hjt => ?_⟩
  ·have hji : j ≠ i := fun e => by subst e; rw [hd] at hjt; cases hjt
   rw [hg j hji] at hlj
   simp only [if_neg hji]
   exact h3 j t hj hjt hlj
  ·have hji : j ≠ i := fun e => by subst e; rw [hd] at hjt; cases hjt
   rw [<- hg j hji]; exact ht j hj hjt
 | some d =>
  have hdN : d < a.tmps.size := by rw [h2, hN]; exact hf.inb i d hd
  refine ⟨h1, ?_, fun j t hj hjt hlj => ?_, fun t ht => ?_⟩
  ·show (a.tmps.setIfInBounds d v).size = _
   rw [Array.size_setIfInBounds]; exact h2
  ·show (a.tmps.setIfInBounds d v)[t]? = _
   by_cases hji : j = i
   ·subst hji
    rw [hd] at hjt
    cases hjt
    rw [Array.getElem?_setIfInBounds]; simp [hdN]
   ·have hdt : d ≠ t := fun e => hji (hf.apart j i t hj hi hjt (by rw [hd, e]))
    rw [hg j hji] at hlj
    rw [Array.getElem?_setIfInBounds]
    simp only [if_neg hdt, if_neg hji]
    exact h3 j t hj hjt hlj
  ·show (a.tmps.setIfInBounds d v)[t]? = _
   have hdt : d ≠ t := fun e => by
    have := ht i hi (by rw [hd, e])
    rw [hgi] at this; cases this
   rw [Array.getElem?_setIfInBounds]
   simp only [if_neg hdt]
   refine h4 t fun j hj hjt => ?_
   have hji : j ≠ i := fun e => by subst e; rw [hd] at hjt; cases hjt; exact hdt rfl
   rw [<- hg j hji]; exact ht j hj hjt
/-- which operations operation i waits for -/
def waits (md : Region.Mode) (ops : Array Oper) (i j : Nat) : Bool := ((ops[i]?).map fun o => o.after.any fun e => Region.binds md e && e.on == j).getD false
/-- what operation i is to be shown for -/
def Step (P : Program) (md : Region.Mode) (ops : Array Oper) (a0 : Act) (w0 : World) (V : Nat -> Value -> World -> Prop) (St : World -> World -> Prop) (i : Nat) : Prop :=
 ∀ (E : Operand -> Value) (w : World), (∀ v, E (.const v) = v) -> (∀ f, E (.func f) = .func (.func f) #[] #[]) -> (∀ g, E (.global g) = .pointer (some ⟨g, 0, none⟩)) ->
  (∀ t, (∀ j, j < ops.size -> dstOf ops j ≠ some t) -> E (.tmp t) = a0.tmps.getD t undef) -> (∀ j t, waits md ops i j = true -> dstOf ops j = some t -> V j (E (.tmp t)) w) -> (∀ j, waits md ops i j = true -> dstOf ops j = none -> ∃ v, V j v w) -> St w0 w ->
  ∀ o, ops[i]? = some o -> Does P E o w fun v w' => V i v w' /\ St w w'
theorem any_free {md : Region.Mode} {Q : Exit -> Act -> World -> Prop} {a0 : Act} {w0 : World} {N : Nat} (hf : Fits md ops N) (hN : a0.tmps.size = N) (V : Nat -> Value -> World -> Prop) (St : World -> World -> Prop)
  (htr : ∀ a b c, St a b -> St b c -> St a c) (hst : ∀ j v w w', j < ops.size -> V j v w -> St w w' -> V j v w') (hop : ∀ i, i < ops.size -> Step P md ops a0 w0 V St i)
  (hQ : ∀ (vs : Nat -> Value) w, (∀ j, j < ops.size -> V j (vs j) w) -> St w0 w -> Q .normal ⟨finT ops vs a0.tmps ops.size, a0.defers⟩ w) :
  ∀ (fuel : Nat) (listed : Array Bool) (a : Act) (w : World) (vs : Nat -> Value), listed.size = ops.size -> ((List.range ops.size).filter fun j => !listed.getD j true).length <= fuel ->
   Agree ops a0 a listed vs -> (∀ j, j < ops.size -> listed.getD j false = true -> V j (vs j) w) -> St w0 w -> wpAny P md ops Q fuel listed a w := by
 have hgf : ∀ (listed : Array Bool), listed.size = ops.size -> ∀ j, j < ops.size -> listed.getD j false = listed.getD j true := fun listed hl j hj => by
  simp [Array.getD_eq_getD_getElem?, hl, hj]
 have hend : ∀ (listed : Array Bool) (a : Act) (w : World) (vs : Nat -> Value), listed.size = ops.size -> Agree ops a0 a listed vs -> (∀ j, j < ops.size -> listed.getD j false = true -> V j (vs j) w) -> St w0 w -> Region.ready md ops listed = [] -> Q .normal a w := by
  intro listed a w vs hl hA hV hS hr
  have hall : ∀ j, j < ops.size -> listed.getD j false = true := by
   intro j
   induction j using Nat.strongRecOn with
   | ind j ih =>
    intro hj
    cases hc : listed.getD j false with
    | true => rfl
    | false =>
     have : j ∈ Region.ready md ops listed := by
      refine mem_ready.2 ⟨by rw [<- hgf listed hl j hj]; exact hc, ops[j], Array.getElem?_eq_getElem hj, fun e he hbi => ?_⟩
      have hb := hf.back j ops[j] e (Array.getElem?_eq_getElem hj) he hbi
      exact ih e.on hb (by omega)
     rw [hr] at this; cases this
  rw [hA.fin hf hN hall]
  exact hQ vs w (fun j hj => hV j hj (hall j hj)) hS
 intro fuel
 induction fuel with
 | zero =>
  intro listed a w vs hl hc hA hV hS
  have hr : Region.ready md ops listed = [] := by
   cases hrr : Region.ready md ops listed with
   | nil => rfl
   | cons x xs =>
    have hx : x ∈ Region.ready md ops listed := by rw [hrr]; simp
    obtain ⟨h1, o, ho, _⟩ := mem_ready.1 hx
    have hlt : x < ops.size := (Array.getElem?_eq_some_iff.1 ho).1
    have : x ∈ (List.range ops.size).filter fun j => !listed.getD j true := List.mem_filter.2 ⟨List.mem_range.2 hlt, by rw [h1]; rfl⟩
    rw [List.eq_nil_of_length_eq_zero (Nat.le_zero.1 hc)] at this
    cases this
  exact ⟨hr, hend listed a w vs hl hA hV hS hr⟩
 | succ fuel ih =>
  intro listed a w vs hl hc hA hV hS
  refine ⟨fun hr => hend listed a w vs hl hA hV hS hr, fun i hi => ?_⟩
  obtain ⟨hun, o, ho, hdep⟩ := mem_ready.1 hi
  have hlt : i < ops.size := (Array.getElem?_eq_some_iff.1 ho).1
  unfold wpOp
  simp only [ho]
  rw [if_pos (by unfold Region.wanted; rw [hf.guard i o ho])]
  refine .inl ?_
  have hdo : dstOf ops i = o.dst := by unfold dstOf; rw [ho]; rfl
  have hwl : ∀ j, waits md ops i j = true -> listed.getD j false = true := by
   intro j hw
   unfold waits at hw
   rw [ho] at hw
   simp only [Option.map_some, Option.getD_some, Array.any_eq_true', Bool.and_eq_true, beq_iff_eq] at hw
   obtain ⟨e, he, hb, rfl⟩ := hw
   exact hdep e he hb
  have hlj : ∀ j, listed.getD j false = true -> j < ops.size := fun j h => by
   rcases Nat.lt_or_ge j ops.size with h' | h'
   ·exact h'
   ·rw [Array.getD_eq_getD_getElem?, Array.getElem?_eq_none (by rw [hl]; exact h')] at h; cases h
  have hD := hop i hlt a.eval w (fun _ => rfl) (fun _ => rfl) (fun _ => rfl) (fun t ht => by
    show a.tmps.getD t undef = _
    rw [Array.getD_eq_getD_getElem?, Array.getD_eq_getD_getElem?, hA.2.2.2 t fun j hj hjt => absurd hjt (ht j hj)])
   (fun j t hw hjt => by
    have h1 := hwl j hw
    have h2 := hA.2.2.1 j t (hlj j h1) hjt h1
    show V j (a.tmps.getD t undef) w
    rw [Array.getD_eq_getD_getElem?, h2]
    exact hV j (hlj j h1) h1) (fun j hw _ => ⟨vs j, hV j (hlj j (hwl j hw)) (hwl j hw)⟩) hS o ho
  refine Does.wp hD ?_
  rintro v w' ⟨hv, hs⟩
  rw [<- hdo]
  have hfl : (List.range ops.size).filter (fun j => !(listed.setIfInBounds i true).getD j true) = ((List.range ops.size).filter fun j => !listed.getD j true).filter fun j => j != i := by
   rw [List.filter_filter]
   apply List.filter_congr
   intro j hj
   by_cases hji : j = i
   ·subst hji
    simp [Array.getD_eq_getD_getElem?, Array.getElem?_setIfInBounds, hl, hlt]
   ·simp [Array.getD_eq_getD_getElem?, Array.getElem?_setIfInBounds, Ne.symm hji, hji]
  refine ih (listed.setIfInBounds i true) (a.put (dstOf ops i) v) w' _ (by simp [hl]) ?_ (hA.step hf hN hlt hl hun v) (fun j hj hlj' => ?_) (htr _ _ _ hS hs)
  ·rw [hfl]
   have hmem : i ∈ (List.range ops.size).filter fun j => !listed.getD j true := List.mem_filter.2 ⟨List.mem_range.2 hlt, by rw [hun]; rfl⟩
   have hlt2 : (((List.range ops.size).filter fun j => !listed.getD j true).filter fun j => j != i).length < ((List.range ops.size).filter fun j => !listed.getD j true).length := by
    apply List.length_filter_lt_length_iff_exists.2
    exact ⟨i, hmem, by simp⟩
   omega
  ·by_cases hji : j = i
   ·subst hji; simp only [if_true]; exact hv
   ·simp only [if_neg hji]
    refine hst j _ w w' hj (hV j hj ?_) hs
    rw [Array.getD_eq_getD_getElem?, Array.getElem?_setIfInBounds] at hlj'
    rw [Array.getD_eq_getD_getElem?]
    simpa [Ne.symm hji] using hlj'
/-- the law of a region that draws its order -/
theorem region_free {id : Nat} {Q : Exit -> Act -> World -> Prop} {a0 : Act} {w0 : World} (N : Nat) (hm : P.follows .mixedOrders = true) (hf : fit .any ops N = true) (hN : a0.tmps.size = N) (V : Nat -> Value -> World -> Prop) (St : World -> World -> Prop)
  (hrf : ∀ a, St a a) (hdr : St w0 w0.drew) (htr : ∀ a b c, St a b -> St b c -> St a c) (hst : ∀ j v w w', j < ops.size -> V j v w -> St w w' -> V j v w') (hop : ∀ i, i < ops.size -> Step P .any ops a0 w0 V St i)
  (hQ : ∀ (vs : Nat -> Value) w, (∀ j, j < ops.size -> V j (vs j) w) -> St w0 w -> Q .normal ⟨finT ops vs a0.tmps ops.size, a0.defers⟩ w) : (Code.region id ops true).wp P Q a0 w0 := by
 refine wp_region_any hm ?_
 refine any_free (fits_of (md := .any) hf) hN V St htr hst hop hQ ops.size _ a0 _ (fun _ => undef) (by simp) (by have := List.length_filter_le (fun j => !(Array.replicate ops.size false).getD j true) (List.range ops.size); rw [List.length_range] at this; exact this) ⟨rfl, rfl, fun j t hj _ h => ?_, fun t _ => rfl⟩ (fun j hj h => ?_) hdr
 ·simp [Array.getD_eq_getD_getElem?, hj] at h
 ·simp [Array.getD_eq_getD_getElem?, hj] at h
/-- no operation's value goes to slot t -/
def noDst (ops : Array Oper) (t : Tmp) : Bool := (List.range ops.size).all fun j => dstOf ops j != some t
/-- the same, its side facts as Bools -/
def StepB (P : Program) (ops : Array Oper) (a0 : Act) (w0 : World) (V : Nat -> Value -> World -> Prop) (St : World -> World -> Prop) (i : Nat) : Prop :=
 ∀ (E : Operand -> Value) (w : World), (∀ v, E (.const v) = v) -> (∀ f, E (.func f) = .func (.func f) #[] #[]) ->
  (∀ t, noDst ops t = true -> E (.tmp t) = a0.tmps.getD t undef) -> (∀ j t, waits .any ops i j = true -> (dstOf ops j == some t) = true -> V j (E (.tmp t)) w) -> (∀ j, waits .any ops i j = true -> dstOf ops j = none -> ∃ v, V j v w) -> St w0 w ->
  ∀ o, ops[i]? = some o -> Does P E o w fun v w' => V i v w' /\ St w w'
theorem StepB.step {a0 : Act} {w0 : World} {V : Nat -> Value -> World -> Prop} {St : World -> World -> Prop} {i : Nat} (h : StepB P ops a0 w0 V St i) : Step P .any ops a0 w0 V St i :=
 fun E w h1 h2 _ h4 h5 h6 h7 o ho => h E w h1 h2 (fun t ht => h4 t fun j hj hd => by
  unfold noDst at ht
  rw [List.all_eq_true] at ht
  have := ht j (List.mem_range.2 hj)
  rw [hd] at this; simp at this) (fun j t hw hd => h5 j t hw (by simpa using hd)) h6 h7 o ho
def findR (n : Nat) : Code -> Option (Array Oper)
 | .region id ops _ => if id = n then some ops else none
 | .seq a b => (match findR n a with | some o => some o | none => findR n b)
 | .cond _ a b => (match findR n a with | some o => some o | none => findR n b)
 | .block _ b => findR n b
 | .loop b => findR n b
 | .scope b => findR n b
 | _ => none
/-- worlds in which nothing that was there is another -/
def Kept (a b : World) : Prop := Below a.heap.size a b
theorem Kept.refl (a : World) : Kept a a := Below.refl _ _
theorem Kept.trans {a b c : World} (h : Kept a b) (k : Kept b c) : Kept a c := Below.trans h (k.mono h.size)
theorem Kept.drew (a : World) : Kept a a.drew := Below.drew (Below.refl _ _)
/-- the law for regions that only make memory -/
theorem region_kept {id : Nat} {Q : Exit -> Act -> World -> Prop} {a0 : Act} {w0 : World} (N : Nat) (hm : P.follows .mixedOrders = true) (hf : fit .any ops N = true) (hN : a0.tmps.size = N) (V : Nat -> Value -> World -> Prop)
  (hst : ∀ j v w w', j < ops.size -> V j v w -> Kept w w' -> V j v w') (hop : ∀ i, i < ops.size -> StepB P ops a0 w0 V Kept i)
  (hQ : ∀ (vs : Nat -> Value) w, (∀ j, j < ops.size -> V j (vs j) w) -> Kept w0 w -> Q .normal ⟨finT ops vs a0.tmps ops.size, a0.defers⟩ w) : (Code.region id ops true).wp P Q a0 w0 :=
 region_free N hm hf hN V Kept Kept.refl (Kept.drew _) (fun _ _ _ h k => h.trans k) hst (fun i hi => (hop i hi).step) hQ
/-- from number n0 on each operation waits for all before it -/
def tailFit (md : Region.Mode) (ops : Array Oper) (n0 : Nat) : Bool :=
 (List.range ops.size).all fun i => decide (i < n0) || (List.range i).all fun j => waits md ops i j
theorem tailFit_spec {md : Region.Mode} {n0 : Nat} (h : tailFit md ops n0 = true) : ∀ i j, i < ops.size -> n0 <= i -> j < i -> waits md ops i j = true := by
 intro i j hi hn hj
 unfold tailFit at h
 rw [List.all_eq_true] at h
 have := h i (List.mem_range.2 hi)
 simp only [Bool.or_eq_true, decide_eq_true_eq, List.all_eq_true] at this
 rcases this with h1 | h1
 ·omega
 ·exact h1 j (List.mem_range.2 hj)
theorem any_tail {md : Region.Mode} {Q : Exit -> Act -> World -> Prop} {N n0 : Nat} (hf : Fits md ops N) (ht : tailFit md ops n0 = true) :
  ∀ (fuel k : Nat) (listed : Array Bool) (a : Act) (w : World), listed.size = ops.size -> n0 <= k -> ops.size - k <= fuel -> (∀ j, j < ops.size -> listed.getD j true = decide (j < k)) ->
   wpList P ops Q (ops.toList.drop k) a w -> wpAny P md ops Q fuel listed a w := by
 have hw := tailFit_spec ht
 have hrd : ∀ (k : Nat) (listed : Array Bool), listed.size = ops.size -> n0 <= k -> (∀ j, j < ops.size -> listed.getD j true = decide (j < k)) -> ∀ i, i ∈ Region.ready md ops listed ↔ i = k /\ k < ops.size := by
  intro k listed hl hk hls i
  constructor
  ·intro hi
   obtain ⟨hun, o, ho, hdep⟩ := mem_ready.1 hi
   have hlt : i < ops.size := (Array.getElem?_eq_some_iff.1 ho).1
   have hik : k <= i := by have := hls i hlt; rw [hun] at this; simpa using this.symm
   rcases Nat.eq_or_lt_of_le hik with h | h
   ·subst h; exact ⟨rfl, hlt⟩
   ·exfalso
    have hwi := hw i k hlt (by omega) h
    unfold waits at hwi
    rw [ho] at hwi
    simp only [Option.map_some, Option.getD_some, Array.any_eq_true', Bool.and_eq_true, beq_iff_eq] at hwi
    obtain ⟨e, he, hb, hek⟩ := hwi
    have h1 := hdep e he hb
    rw [hek] at h1
    have h2 := hls k (by omega)
    simp only [Nat.lt_irrefl, decide_false] at h2
    rw [Array.getD_eq_getD_getElem?, Array.getElem?_eq_getElem (by omega)] at h1 h2
    simp only [Option.getD_some] at h1 h2
    rw [h1] at h2; cases h2
  ·rintro ⟨rfl, hlt⟩
   refine mem_ready.2 ⟨by rw [hls i hlt]; simp, ops[i], Array.getElem?_eq_getElem hlt, fun e he hb => ?_⟩
   have hbk := hf.back i ops[i] e (Array.getElem?_eq_getElem hlt) he hb
   have h2 := hls e.on (by omega)
   rw [decide_eq_true hbk] at h2
   rw [Array.getD_eq_getD_getElem?, Array.getElem?_eq_getElem (by omega)] at h2 ⊢
   exact h2
 intro fuel
 induction fuel with
 | zero =>
  intro k listed a w hl hk hfu hls h
  have hke : ops.size <= k := by omega
  have hr : Region.ready md ops listed = [] := by
   cases hrr : Region.ready md ops listed with
   | nil => rfl
   | cons x xs =>
    have := (hrd k listed hl hk hls x).1 (by rw [hrr]; simp)
    omega
  rw [List.drop_of_length_le (by simpa using hke)] at h
  exact ⟨hr, h⟩
 | succ fuel ih =>
  intro k listed a w hl hk hfu hls h
  refine ⟨fun hr => ?_, fun i hi => ?_⟩
  ·have hke : ops.size <= k := by
    rcases Nat.lt_or_ge k ops.size with h' | h'
    ·have := (hrd k listed hl hk hls k).2 ⟨rfl, h'⟩
     rw [hr] at this; cases this
    ·exact h'
   rw [List.drop_of_length_le (by simpa using hke)] at h
   exact h
  ·obtain ⟨rfl, hlt⟩ := (hrd k listed hl hk hls i).1 hi
   have hdr : ops.toList.drop i = ops[i] :: ops.toList.drop (i + 1) := by
    rw [List.drop_eq_getElem_cons (by simpa using hlt)]; simp
   rw [hdr] at h
   unfold wpOp
   rw [Array.getElem?_eq_getElem hlt]
   simp only
   have hls' : ∀ j, j < ops.size -> (listed.setIfInBounds i true).getD j true = decide (j < i + 1) := by
    intro j hj
    by_cases hji : j = i
    ·subst hji
     simp [Array.getD_eq_getD_getElem?, Array.getElem?_setIfInBounds, hl, hlt]
    ·have := hls j hj
     have e1 : (listed.setIfInBounds i true).getD j true = listed.getD j true := by
      simp [Array.getD_eq_getD_getElem?, Array.getElem?_setIfInBounds, Ne.symm hji]
     rw [e1, this, decide_eq_decide]; omega
   have hmn : ∀ a w, wpList P ops Q (ops.toList.drop (i + 1)) a w -> wpAny P md ops Q fuel (listed.setIfInBounds i true) a w := fun a w h => ih (i + 1) _ a w (by simp [hl]) (by omega) (by omega) hls' h
   unfold wpList at h
   split
   ·rename_i hwn
    rw [if_pos hwn] at h
    exact h.imp (Oper.wp_mono hmn) id
   ·rename_i hwn
    rw [if_neg hwn] at h
    exact hmn _ _ h
/-- the same law, where the operations from n0 on stand behind all others: they are walked in the order of the text -/
theorem region_tail {id : Nat} {Q : Exit -> Act -> World -> Prop} {a0 : Act} {w0 : World} (N n0 : Nat) (hm : P.follows .mixedOrders = true) (hf : fit .any ops N = true) (hN : a0.tmps.size = N) (ht : tailFit .any ops n0 = true) (hn0 : n0 <= ops.size) (V : Nat -> Value -> World -> Prop)
  (hst : ∀ j v w w', j < n0 -> V j v w -> Kept w w' -> V j v w') (hop : ∀ i, i < n0 -> StepB P ops a0 w0 V Kept i)
  (hQ : ∀ (vs : Nat -> Value) w, (∀ j, j < n0 -> V j (vs j) w) -> Kept w0 w -> wpList P ops Q (ops.toList.drop n0) ⟨finT ops vs a0.tmps n0, a0.defers⟩ w) : (Code.region id ops true).wp P Q a0 w0 := by
 refine wp_region_any hm ?_
 have hfs := fits_of (md := .any) hf
 have hw := tailFit_spec ht
 have hgf : ∀ (listed : Array Bool), listed.size = ops.size -> ∀ j, j < ops.size -> listed.getD j false = listed.getD j true := fun listed hl j hj => by
  simp [Array.getD_eq_getD_getElem?, hl, hj]
 have main : ∀ (fuel : Nat) (listed : Array Bool) (a : Act) (w : World) (vs : Nat -> Value), listed.size = ops.size -> ((List.range ops.size).filter fun j => !listed.getD j true).length <= fuel ->
   (∀ j, j < ops.size -> n0 <= j -> listed.getD j true = false) -> Agree ops a0 a listed vs -> (∀ j, j < n0 -> listed.getD j false = true -> V j (vs j) w) -> Kept w0 w -> wpAny P .any ops Q fuel listed a w := by
  have hend : ∀ (fuel : Nat) (listed : Array Bool) (a : Act) (w : World) (vs : Nat -> Value), listed.size = ops.size -> ((List.range ops.size).filter fun j => !listed.getD j true).length <= fuel -> (∀ j, j < ops.size -> n0 <= j -> listed.getD j true = false) -> Agree ops a0 a listed vs -> (∀ j, j < n0 -> listed.getD j false = true -> V j (vs j) w) -> Kept w0 w -> (∀ j, j < n0 -> listed.getD j true = true) -> wpAny P .any ops Q fuel listed a w := by
   intro fuel listed a w vs hl hc htl hA hV hS hall
   have hcnt : ops.size - n0 <= fuel := by
    refine Nat.le_trans ?_ hc
    have : ((List.range ops.size).filter fun j => !listed.getD j true).length = ((List.range ops.size).filter fun j => decide (n0 <= j)).length := by
     congr 1
     apply List.filter_congr
     intro j hj
     have hj' := List.mem_range.1 hj
     rcases Nat.lt_or_ge j n0 with h | h
     ·rw [hall j h]; simp; omega
     ·rw [htl j hj' h]; simp; omega
    rw [this]
    have h2 : (List.range ops.size).filter (fun j => decide (n0 <= j)) = List.range' n0 (ops.size - n0) := by
     have : List.range ops.size = List.range n0 ++ List.range' n0 (ops.size - n0) := by
      rw [List.range_eq_range', List.range_eq_range', show ops.size = n0 + (ops.size - n0) by omega, <- List.range'_append_1]; simp
     rw [this, List.filter_append]
     rw [List.filter_eq_nil_iff.2 (fun x hx => by have := List.mem_range.1 hx; simp; omega), List.nil_append]
     exact List.filter_eq_self.2 (fun x hx => by have := (List.mem_range'_1.1 hx).1; simpa using this)
    rw [h2, List.length_range']; exact Nat.le_refl _
   refine any_tail hfs ht fuel n0 listed a w hl (Nat.le_refl _) hcnt (fun j hj => ?_) ?_
   ·rcases Nat.lt_or_ge j n0 with h | h
    ·rw [hall j h]; simp [h]
    ·rw [htl j hj h]; simp; omega
   ·have ha : a = ⟨finT ops vs a0.tmps n0, a0.defers⟩ := by
     obtain ⟨h1, h2, h3, h4⟩ := hA
     obtain ⟨T, D⟩ := a
     simp only at h1 h2 h3 h4
     subst h1
     congr 1
     apply Array.ext_getElem?
     intro t
     obtain ⟨k1, k2⟩ := finT_get hfs vs a0.tmps hN n0 hn0 t
     by_cases hx : ∃ j, j < n0 /\ dstOf ops j = some t
     ·obtain ⟨j, hj, hd⟩ := hx
      rw [k1 j hj hd, h3 j t (by omega) hd (by rw [hgf listed hl j (by omega)]; exact hall j hj)]
     ·rw [k2 (fun j hj hd => hx ⟨j, hj, hd⟩)]
      refine h4 t fun j hj hd => ?_
      rcases Nat.lt_or_ge j n0 with h | h
      ·exact absurd ⟨j, h, hd⟩ hx
      ·rw [hgf listed hl j hj]; exact htl j hj h
    rw [ha]
    exact hQ vs w (fun j hj => hV j hj (by rw [hgf listed hl j (by omega)]; exact hall j hj)) hS
  intro fuel
  induction fuel with
  | zero =>
   intro listed a w vs hl hc htl hA hV hS
   refine hend 0 listed a w vs hl hc htl hA hV hS fun j hj => ?_
   cases hc2 : listed.getD j true with
   | true => rfl
   | false =>
    have : j ∈ (List.range ops.size).filter fun j => !listed.getD j true := List.mem_filter.2 ⟨List.mem_range.2 (by omega), by rw [hc2]; rfl⟩
    rw [List.eq_nil_of_length_eq_zero (Nat.le_zero.1 hc)] at this
    cases this
  | succ fuel ih =>
   intro listed a w vs hl hc htl hA hV hS
   by_cases hall : ∀ j, j < n0 -> listed.getD j true = true
   ·exact hend (fuel + 1) listed a w vs hl hc htl hA hV hS hall
   ·have hunl : ∃ j, j < n0 /\ listed.getD j true = false := by
     apply Classical.byContradiction
     intro h
     exact hall fun j hj => by
      cases hc2 : listed.getD j true with
      | true => rfl
      | false => exact absurd ⟨j, hj, hc2⟩ h
    have hni : ∀ i, i ∈ Region.ready .any ops listed -> i < n0 := by
     intro i hi
     obtain ⟨hun, o, ho, hdep⟩ := mem_ready.1 hi
     have hlt : i < ops.size := (Array.getElem?_eq_some_iff.1 ho).1
     rcases Nat.lt_or_ge i n0 with h | h
     ·exact h
     ·exfalso
      obtain ⟨j, hj, hjf⟩ := hunl
      have hwi := hw i j hlt h (by omega)
      unfold waits at hwi
      rw [ho] at hwi
      simp only [Option.map_some, Option.getD_some, Array.any_eq_true', Bool.and_eq_true, beq_iff_eq] at hwi
      obtain ⟨e, he, hb, hek⟩ := hwi
      have h1 := hdep e he hb
      rw [hek, hgf listed hl j (by omega)] at h1
      rw [h1] at hjf; cases hjf
    refine ⟨fun hr => ?_, fun i hi => ?_⟩
    ·exfalso
     -- the least operation that has not come up is ready
     have hex : ∀ j, j < n0 -> listed.getD j true = true := by
      intro j
      induction j using Nat.strongRecOn with
      | ind j ihj =>
       intro hj
       cases hc2 : listed.getD j true with
       | true => rfl
       | false =>
        have : j ∈ Region.ready .any ops listed := by
         refine mem_ready.2 ⟨hc2, ops[j], Array.getElem?_eq_getElem (by omega), fun e he hbi => ?_⟩
         have hb := hfs.back j ops[j] e (Array.getElem?_eq_getElem (by omega)) he hbi
         rw [hgf listed hl e.on (by omega)]
         exact ihj e.on hb (by omega)
        rw [hr] at this; cases this
     exact hall hex
    ·have hin := hni i hi
     obtain ⟨hun, o, ho, hdep⟩ := mem_ready.1 hi
     have hlt : i < ops.size := (Array.getElem?_eq_some_iff.1 ho).1
     unfold wpOp
     simp only [ho]
     rw [if_pos (by unfold Region.wanted; rw [hfs.guard i o ho])]
     refine .inl ?_
     have hdo : dstOf ops i = o.dst := by unfold dstOf; rw [ho]; rfl
     have hwl : ∀ j, waits .any ops i j = true -> listed.getD j false = true /\ j < n0 := by
      intro j hwj
      unfold waits at hwj
      rw [ho] at hwj
      simp only [Option.map_some, Option.getD_some, Array.any_eq_true', Bool.and_eq_true, beq_iff_eq] at hwj
      obtain ⟨e, he, hb, rfl⟩ := hwj
      exact ⟨hdep e he hb, by have := hfs.back i o e ho he hb; omega⟩
     have hD := (hop i hin).step a.eval w (fun _ => rfl) (fun _ => rfl) (fun _ => rfl) (fun t ht' => by
       show a.tmps.getD t undef = _
       rw [Array.getD_eq_getD_getElem?, Array.getD_eq_getD_getElem?, hA.2.2.2 t fun j hj hjt => absurd hjt (ht' j hj)])
      (fun j t hwj hjt => by
       obtain ⟨h1, h1n⟩ := hwl j hwj
       have h2 := hA.2.2.1 j t (by omega) hjt h1
       show V j (a.tmps.getD t undef) w
       rw [Array.getD_eq_getD_getElem?, h2]
       exact hV j h1n h1) (fun j hwj _ => ⟨vs j, hV j (hwl j hwj).2 (hwl j hwj).1⟩) hS o ho
     refine Does.wp hD ?_
     rintro v w' ⟨hv, hs⟩
     rw [<- hdo]
     have hfl : (List.range ops.size).filter (fun j => !(listed.setIfInBounds i true).getD j true) = ((List.range ops.size).filter fun j => !listed.getD j true).filter fun j => j != i := by
      rw [List.filter_filter]
      apply List.filter_congr
      intro j hj
      by_cases hji : j = i
      ·subst hji
       simp [Array.getD_eq_getD_getElem?, Array.getElem?_setIfInBounds, hl, hlt]
      ·simp [Array.getD_eq_getD_getElem?, Array.getElem?_setIfInBounds, Ne.symm hji, hji]
     refine ih (listed.setIfInBounds i true) (a.put (dstOf ops i) v) w' _ (by simp [hl]) ?_ (fun j hj hjn => ?_) (hA.step hfs hN hlt hl hun v) (fun j hj hlj' => ?_) (hS.trans hs)
     ·rw [hfl]
      have hmem : i ∈ (List.range ops.size).filter fun j => !listed.getD j true := List.mem_filter.2 ⟨List.mem_range.2 hlt, by rw [hun]; rfl⟩
      have hlt2 : (((List.range ops.size).filter fun j => !listed.getD j true).filter fun j => j != i).length < ((List.range ops.size).filter fun j => !listed.getD j true).length := by
       apply List.length_filter_lt_length_iff_exists.2
       exact ⟨i, hmem, by simp⟩
      omega
     ·have hji : j ≠ i := by omega
      rw [Array.getD_eq_getD_getElem?, Array.getElem?_setIfInBounds, if_neg (Ne.symm hji), <- Array.getD_eq_getD_getElem?]
      exact htl j hj hjn
     ·by_cases hji : j = i
      ·subst hji; simp only [if_true]; exact hv
      ·simp only [if_neg hji]
       refine hst j _ w w' hj (hV j hj ?_) hs
       rw [Array.getD_eq_getD_getElem?, Array.getElem?_setIfInBounds] at hlj'
       rw [Array.getD_eq_getD_getElem?]
       simpa [Ne.symm hji] using hlj'
 refine main ops.size _ a0 _ (fun _ => undef) (by simp) (by have := List.length_filter_le (fun j => !(Array.replicate ops.size false).getD j true) (List.range ops.size); rw [List.length_range] at this; exact this) (fun j hj _ => ?_) ⟨rfl, rfl, fun j t hj _ h => ?_, fun t _ => rfl⟩ (fun j hj h => ?_) (Kept.drew _)
 ·simp [Array.getD_eq_getD_getElem?, hj]
 ·simp [Array.getD_eq_getD_getElem?, hj] at h
 ·simp [Array.getD_eq_getD_getElem?, (show j < ops.size by omega)] at h
end
end Fre
/-- it ends in the normal way, and so -/
def OnlyG (Q : Act -> World -> Prop) : Exit -> Act -> World -> Prop
 | .normal, a, w => Q a w
 | _, _, _ => False
theorem onlyG_out (Q : Act -> World -> Prop) : ¬ LetsOut (OnlyG Q) := fun ⟨_, _, h⟩ => h
theorem upon_roundG {l n : Nat} {P : Program} {o : Oper} {a : Act} {K : Act -> World -> Prop} {Q : Act -> World -> Prop} {Q' : Exit -> Act -> World -> Prop} {r : Result Next}
  (h : o.upon P a K (OnlyG Q) r) : o.uponIn (Fence.wide.inRound l) n P a K Q' r := by
 cases r with
 | ok x w' =>
  cases x with
  | value v => exact h
  | skip => exact h
  | defer d => exact h
  | enter f args =>
   refine ⟨fun h => (by cases h), ?_⟩
   refine CallsIn.inRound l (callsIn_wide.2 (Calls.mono h ?_))
   intro e w'' he
   cases e with
   | returned v => exact he
   | panicked c => exact (he : False).elim
   | outgrown => exact (onlyG_out Q he).elim
  | row row args =>
   refine ⟨fun h => (by cases h), ?_⟩
   exact fun c cs _ => let ⟨v, w', r, s⟩ := h c cs; ⟨v, w', r, stepsIn_wide.2 s⟩
  | _ => exact (h : False).elim
 | halt x w' =>
  cases x with
  | panic v => exact (h : False).elim
  | _ => exact (h : False).elim
def hdN (b : List Nat) : Nat := leN (b.take 8)
def hdL (b : List Nat) : List Nat := (List.range 16).map fun k => leN ((b.drop (8 + 8 * k)).take 8)
theorem hdL_len (b : List Nat) : (hdL b).length = 16 := by simp [hdL]
theorem hdL_get (b : List Nat) (k : Nat) (h : k < 16) : (hdL b).getD k 0 = leN ((b.drop (8 + 8 * k)).take 8) := by simp [hdL, h]
theorem le8_lt (b : List Nat) (h : ∀ x ∈ b, x < 256) : leN (b.take 8) < 18446744073709551616 := by
 have h1 := leN_lt (b.take 8) (fun x hx => h x (List.mem_of_mem_take hx))
 have h2 : 2 ^ (8 * (b.take 8).length) <= 2 ^ 64 := Nat.pow_le_pow_right (by decide) (by rw [List.length_take]; omega)
 exact Nat.lt_of_lt_of_le h1 h2
theorem hdL_lt (b : List Nat) (h : ∀ x ∈ b, x < 256) : ∀ x ∈ hdL b, x < 18446744073709551616 := by
 intro x hx
 unfold hdL at hx
 obtain ⟨k, _, rfl⟩ := List.mem_map.1 hx
 exact le8_lt _ fun y hy => h y (List.mem_of_mem_drop hy)
/-- a block's head -/
def headN (b : List Nat) : Option (Nat × List Nat) :=
 if zeroB b then some (1, List.replicate 16 0) else if rightR (hdN b) (hdL b) && decide (b = rtBytes (hdN b) (hdL b)) then some (hdN b, hdL b) else none
def headV : Option (Nat × List Nat) -> Value
 | none => .tuple #[.agg (rtA 0 (List.replicate 16 0)), .int .i64 4]
 | some (n, L) => .tuple #[.agg (rtA n L), .int .i64 0]
theorem rtA_one (n : Nat) (L : List Nat) : (rtA n L).all (·.oneCell') = true := by
 rw [<- Array.all_toList]; simp [rtA, Value.oneCell']
theorem rt_set (n : Nat) (L : List Nat) (h : L.length = 16) (k : Nat) (hk : k < 16) : (rtA n (partB L k)).setIfInBounds (1 + k) (.int .u64 ((L.getD k 0 : Nat) : Int)) = rtA n (partB L (k + 1)) := by
 rw [<- partB_set L k (by omega)]
 unfold rtA
 rw [List.setIfInBounds_toArray, Nat.add_comm 1 k, List.set_cons_succ, List.map_set]
theorem rtA_get (n : Nat) (L : List Nat) (k : Nat) (h : k < L.length) : (rtA n L)[1 + k]? = some (.int .u64 ((L.getD k 0 : Nat) : Int)) := by
 unfold rtA
 rw [List.getElem?_toArray, Nat.add_comm 1 k, List.getElem?_cons_succ, List.getElem?_map, List.getD_eq_getElem?_getD, List.getElem?_eq_getElem h]; rfl
theorem next8 (b : List Nat) (j : Nat) (h : j + 8 <= b.length) : nextN 8 (b.drop j) 0 = (b.drop j).take 8 /\ restN 8 (b.drop j) 0 = b.drop (j + 8) /\ errN 8 (b.drop j) 0 = 0 := by
 have : ¬ (b.drop j).length < 8 := by rw [List.length_drop]; omega
 unfold nextN restN errN
 simp only [if_true, if_neg this, List.drop_drop]
 exact ⟨trivial, trivial, trivial⟩
theorem RowIs.farG {w w' : World} {rb : Nat} {l : List Nat} {err : Int} (h : RowIs w rb l err) (hb : Below (rb + 1) w w') : RowIs w' rb l err := by
 obtain ⟨v, h1, h2⟩ := h
 exact ⟨v, (hb.block _ (Nat.lt_succ_self _)).trans h1, h2.up (hb.mono (Nat.le_succ _))⟩
theorem hparse_c (va : Option Addr) (vc m : Nat) (b : List Nat) (hlen : b.length = 256) (hm : m = 256) (w : World) (hv : SlAt w (.slice va m vc) b) :
  Calls Tryz.prog 37 #[.slice va m vc] w fun e w' => e = .returned (headV (headN b)) /\ Below w.heap.size w w' := by
 have hbb : BytesAt w va vc b := by
  obtain ⟨a, c, h1, h2, _⟩ := hv
  cases h1; exact h2
 have HLT := Lib.hid hbb.1
 have HZ0 : Hid ((w.alloc (.cells #[.int .u64 0, .int .u64 0, .int .u64 0, .int .u64 0, .int .u64 0, .int .u64 0, .int .u64 0, .int .u64 0, .int .u64 0, .int .u64 0, .int .u64 0, .int .u64 0, .int .u64 0, .int .u64 0, .int .u64 0, .int .u64 0, .int .u64 0] 60)).heap[w.heap.size]? = some (.cells (rtA 0 (List.replicate 16 0)) 60 (0, 0))) := heap_new' _ _
 have HE0 : Hid (Below w.heap.size w (w.alloc (.cells #[.int .u64 0, .int .u64 0, .int .u64 0, .int .u64 0, .int .u64 0, .int .u64 0, .int .u64 0, .int .u64 0, .int .u64 0, .int .u64 0, .int .u64 0, .int .u64 0, .int .u64 0, .int .u64 0, .int .u64 0, .int .u64 0, .int .u64 0] 60))) := below_box _ _
 have HV0 := Lib.hid (hv.up HE0.out (Nat.le_refl _))
 have HB0 := Lib.hid (hbb.up HE0.out (Nat.le_refl _))
 have HM := Lib.hid hm
 have HLN := Lib.hid hlen
 have dm : ((m : Int) == 256) = true := by rw [hm]; rfl
 obtain ⟨z, hz⟩ : ∃ z, z = zeroB b := ⟨_, rfl⟩
 have HZR : Hid (∀ w, BytesAt w va vc b -> Calls Tryz.prog 46 #[.slice va m vc] w fun e w' => e = .returned (.bool z) /\ w = w') := fun w h => by rw [hz]; exact zero_c va m vc b (by omega) (by omega) w h
 have HZZ := Lib.hid hz
 clear hbb hv hm hlen hz
 go_enter Tryz.func37, Tryz.ntmps37
 go_wp2_with fail
 generalize w.alloc (.cells #[.int .u64 0, .int .u64 0, .int .u64 0, .int .u64 0, .int .u64 0, .int .u64 0, .int .u64 0, .int .u64 0, .int .u64 0, .int .u64 0, .int .u64 0, .int .u64 0, .int .u64 0, .int .u64 0, .int .u64 0, .int .u64 0, .int .u64 0] 60) = w0 at *
 refine (HZR.out w0 HB0.out).mono ?_
 rintro e w1 ⟨rfl, rfl⟩
 clear HZR
 cases z with
 | true =>
  have HH : Hid (headN b = some (1, List.replicate 16 0)) := by show _ = _; unfold headN; rw [<- HZZ.out, if_pos rfl]
  go_wp2_with (first
   | (refine wpList_store_row rfl 60 (.tmp 2) (.tmp 16) rfl w.heap.size (rtA 1 (List.replicate 16 0)) rfl rfl 60 _ HZ0.out (by rw [roots17]; rfl) rfl (rtA_one _ _) ?_)
   | fail)
  refine bodyPost_ret (results_row_tmp rfl _ _ w.heap.size _ (rtA 1 (List.replicate 16 0)) (0, 0) _ rfl (setRow_heap _ _ _ _ _ _ HZ0.out) Tryz.underlying60 rfl (by rw [roots17]; rfl)) rfl ?_
  exact ⟨by rw [HH.out]; rfl, below_setRow HE0.out (Nat.le_refl _) _⟩
 | false =>
  go_wp2_with fail
  have hlm : b.length = m := by rw [HLN.out, HM.out]
  refine (rowof_c (.slice va m vc) b (by rw [HLN.out]; omega) w0 HV0.out).mono ?_
  rintro e w2 ⟨rb, rfl, hrb, hr2, hb2⟩
  have HRB : Hid (w.heap.size < rb) := Nat.lt_of_lt_of_le (lt_of_block HZ0.out) hrb
  have HZ2 := Lib.hid ((hb2.block _ (lt_of_block HZ0.out)).trans HZ0.out)
  have HE2 : Hid (Below w.heap.size w w2) := HE0.out.trans (hb2.mono HE0.out.size)
  have HB2 := Lib.hid (HB0.out.up hb2 (Nat.le_refl _))
  have HR2 : Hid (RowIs w2 rb (b.drop 0) 0) := hr2
  have HVB : Hid (∀ g o, va = some ⟨g, o, none⟩ -> g < rb) := fun g o h => by
   obtain ⟨g', o', e1, _, e3, _⟩ := HB0.out.2 (by rw [HLN.out]; omega)
   rw [h] at e1; cases e1; exact Nat.lt_of_lt_of_le e3 hrb
  clear hrb hr2 hb2 HZ0 HE0 HV0
  go_wp2_with fail
  refine (num_c rb 8 (by omega) (by omega) 8 rfl (b.drop 0) (by rw [List.length_drop, HLN.out]; omega) 0 w2 HR2.out).mono ?_
  rintro e w3 ⟨rfl, hr3, hs3⟩
  obtain ⟨e1, e2, e3⟩ := next8 b 0 (by rw [HLN.out]; omega)
  rw [e2, e3] at hr3
  rw [e1]
  obtain ⟨n, hn⟩ : ∃ n, n = hdN b := ⟨_, rfl⟩
  have hnn : leN ((b.drop 0).take 8) = n := hn.symm
  rw [hnn]
  have HN : Hid (n = hdN b /\ n < 18446744073709551616) := ⟨hn, by rw [hn]; exact le8_lt b HLT.out⟩
  have HR3 : Hid (RowIs w3 rb (b.drop (8 + 8 * 0)) 0) := hr3
  have HZ3 := Lib.hid ((hs3.2 _ (lt_of_block HZ2.out) (by have := HRB.out; omega)).trans HZ2.out)
  have HE3 : Hid (Below w.heap.size w w3) := HE2.out.trans (hs3.1.mono (Nat.le_of_lt HRB.out))
  have HB3 : Hid (BytesAt w3 va vc b) := bytes_keep HB2.out (fun g o h hg => hs3.1.block g (HVB.out g o h))
  clear hn hnn e1 e2 e3 hr3 hs3 HR2 HZ2 HE2 HB2
  obtain ⟨L, hL⟩ : ∃ L, L = hdL b := ⟨_, rfl⟩
  have HL : Hid (L = hdL b /\ L.length = 16 /\ ∀ x ∈ L, x < 18446744073709551616) := ⟨hL, by rw [hL]; exact hdL_len b, by rw [hL]; exact hdL_lt b HLT.out⟩
  have HRL : Hid (rb < w3.heap.size) := by obtain ⟨v, hv, _⟩ := HR3.out; exact lt_of_block hv
  have hb4 := below_box w3 (.cells #[.int .u64 (n : Int), .int .u64 0, .int .u64 0, .int .u64 0, .int .u64 0, .int .u64 0, .int .u64 0, .int .u64 0, .int .u64 0, .int .u64 0, .int .u64 0, .int .u64 0, .int .u64 0, .int .u64 0, .int .u64 0, .int .u64 0, .int .u64 0] 60)
  have HR4 : Hid (RowIs (w3.alloc (.cells #[.int .u64 (n : Int), .int .u64 0, .int .u64 0, .int .u64 0, .int .u64 0, .int .u64 0, .int .u64 0, .int .u64 0, .int .u64 0, .int .u64 0, .int .u64 0, .int .u64 0, .int .u64 0, .int .u64 0, .int .u64 0, .int .u64 0, .int .u64 0] 60)) rb (b.drop (8 + 8 * 0)) 0) := HR3.out.farG (hb4.mono HRL.out)
  have HZ4 := Lib.hid ((hb4.block _ (lt_of_block HZ3.out)).trans HZ3.out)
  have HE4 := Lib.hid (HE3.out.trans (hb4.mono HE3.out.size))
  have HB4 := Lib.hid (HB3.out.up hb4 (Nat.le_refl _))
  have HP4 : Hid ((w3.alloc (.cells #[.int .u64 (n : Int), .int .u64 0, .int .u64 0, .int .u64 0, .int .u64 0, .int .u64 0, .int .u64 0, .int .u64 0, .int .u64 0, .int .u64 0, .int .u64 0, .int .u64 0, .int .u64 0, .int .u64 0, .int .u64 0, .int .u64 0, .int .u64 0] 60)).heap[w3.heap.size]? = some (.cells (rtA n (partB L 0)) 60 (0, 0))) := by
   show _ = _; rw [partB_zero, HL.out.2.1]; exact heap_new' _ _
  clear hL hb4 HR3 HZ3 HE3 HB3
  go_wp2_with fail
  generalize hpb : w3.heap.size = pb at *
  generalize w3.alloc (.cells #[.int .u64 (n : Int), .int .u64 0, .int .u64 0, .int .u64 0, .int .u64 0, .int .u64 0, .int .u64 0, .int .u64 0, .int .u64 0, .int .u64 0, .int .u64 0, .int .u64 0, .int .u64 0, .int .u64 0, .int .u64 0, .int .u64 0, .int .u64 0] 60) = w4 at *
  go_loopw [23] (fun vi wr => ∃ k : Nat, k <= 16 /\ vi = .int .i64 (k : Int) /\ Hid (wr.heap[pb]? = some (.cells (rtA n (partB L k)) 60 (0, 0))) /\ Hid (RowIs wr rb (b.drop (8 + 8 * k)) 0) /\ Hid (wr.heap[w.heap.size]? = some (.cells (rtA 0 (List.replicate 16 0)) 60 (0, 0))) /\ Hid (BytesAt wr va vc b) /\ Hid (Below w.heap.size w wr)) (fun vi _ => 16 - (intOf vi).toNat)
  case atStart => exact ⟨0, by omega, rfl, HP4.out, HR4.out, HZ4.out, HB4.out, HE4.out⟩
  case round =>
   clear HP4 HR4 HZ4 HE4 HB4
   obtain ⟨k, hk, rfl, hp, hr, hz, hbb, hbel⟩ := hrel
   by_cases hlt : k < 16
   ·have hd : decide ((k : Int) < 16) = true := by simp; omega
    have dl : (k : Int) < 16 := by omega
    have dk0 : ¬ (k : Int) < 0 := by omega
    have HK := Lib.hid hlt
    obtain ⟨e1, e2, e3⟩ := next8 b (8 + 8 * k) (by rw [HLN.out]; omega)
    obtain ⟨q, hq⟩ : ∃ q, q = L.getD k 0 := ⟨_, rfl⟩
    have hqq : leN (nextN 8 (b.drop (8 + 8 * k)) 0) = q := by rw [e1, hq, HL.out.1, hdL_get _ _ hlt]
    have HQ := Lib.hid hq
    have HN8 : Hid (restN 8 (b.drop (8 + 8 * k)) 0 = b.drop (8 + 8 * (k + 1)) /\ errN 8 (b.drop (8 + 8 * k)) 0 = 0) := ⟨by rw [e2]; congr 1, e3⟩
    have HQQ := Lib.hid hqq
    clear hq hqq hlt e1 e2 e3 hk
    go_wp2_with fail
    refine (num_c rb 8 (by omega) (by omega) 8 rfl (b.drop (8 + 8 * k)) (by rw [List.length_drop, HLN.out]; omega) 0 wr hr.out).mono ?_
    rintro e w5 ⟨rfl, hr5, hs5⟩
    rw [HN8.out.1, HN8.out.2] at hr5
    rw [HQQ.out]
    have hp5 := (hs5.2 _ (lt_of_block hp.out) (by have := HRL.out; omega)).trans hp.out
    have hz5 := (hs5.2 _ (lt_of_block hz.out) (by have := HRB.out; omega)).trans hz.out
    have hb5 : BytesAt w5 va vc b := bytes_keep hbb.out (fun g o h hg => hs5.1.block g (HVB.out g o h))
    have f5 := free_at hp5 (1 + k)
    have c5 := (cells_at hp5 (1 + k)).trans (rtA_get _ _ k (by rw [partB_len _ _ (by rw [HL.out.2.1]; omega), HL.out.2.1]; exact HK.out))
    have nb := block_at hp5 (1 + k) (.int .u64 ((L.getD k 0 : Nat) : Int))
    rw [rt_set n L HL.out.2.1 k HK.out, <- HQ.out] at nb
    have HN1 := Lib.hid nb
    have hbs : Below (rb + 1) w5 (w5.setCell ⟨pb, 1 + k, none⟩ (.int .u64 (q : Int))) := (Below.refl _ _).setCell (by have := HRL.out; show rb + 1 <= pb; omega) _
    have HN2 : Hid (RowIs (w5.setCell ⟨pb, 1 + k, none⟩ (.int .u64 (q : Int))) rb (b.drop (8 + 8 * (k + 1))) 0) := RowIs.farG hr5 hbs
    have HN3 := Lib.hid ((hbs.block _ (by have := HRB.out; omega)).trans hz5)
    have HN5 : Hid (BytesAt (w5.setCell ⟨pb, 1 + k, none⟩ (.int .u64 (q : Int))) va vc b) := bytes_keep hb5 (fun g o h hg => hbs.block g (by have := HVB.out g o h; omega))
    have HN4 : Hid (Below w.heap.size w (w5.setCell ⟨pb, 1 + k, none⟩ (.int .u64 (q : Int)))) := (hbel.out.trans (hs5.1.mono (Nat.le_of_lt HRB.out))).trans (hbs.mono (by have := HRB.out; omega))
    clear nb hbs hp5 hz5 hr5 hs5 hb5 hp hr hz hbb hbel
    go_wp2
    go_roundw
    case rel => exact ⟨k + 1, by have := HK.out; omega, by go_num, HN1.out, HN2.out, HN3.out, HN5.out, HN4.out⟩
    case measure => simp [intOf]; have := HK.out; omega
   ·have hk16 : k = 16 := by omega
    have hd : decide ((k : Int) < 16) = false := by simp; omega
    have dl : ¬ (k : Int) < 16 := by omega
    have hp6 := hp.out
    rw [hk16, show (16 : Nat) = L.length from HL.out.2.1.symm, partB_full] at hp6
    have HP6 := Lib.hid hp6
    clear hp hp6 hr hk16 hk hlt
    go_wp2_with (first
     | (refine wpList_load_row rfl 60 (.tmp 5) rfl pb rfl _ _ _ _ HP6.out Tryz.underlying60 rfl (by rw [roots17, rtA_size, HL.out.2.1]) ?_)
     | fail)
    have HPZ : Hid (w.heap.size ≠ pb) := by have := HRB.out; have := HRL.out; show _ ≠ _; omega
    by_cases hrt : rightR n L = true
    ·refine (rtbytes_yes n L HL.out.2.1 HL.out.2.2 hrt wr).mono ?_
     rintro e w7 ⟨⟨b7, rfl, hq7, hz7, hblk7⟩, hb7⟩
     have HZ7 := Lib.hid ((hb7.block _ (lt_of_block hz.out)).trans hz.out)
     have HP7 := Lib.hid ((hb7.block _ (lt_of_block HP6.out)).trans HP6.out)
     have HE7 : Hid (Below w.heap.size w w7) := hbel.out.trans (hb7.mono hbel.out.size)
     have hbz := bytesAt_block (rtBytes_lt n L) hblk7
     rw [rtBytes_len] at hbz
     obtain ⟨y, hy⟩ : ∃ y, y = decide (b = rtBytes n L) := ⟨_, rfl⟩
     have HQ7 : Hid (Calls Tryz.prog 66 #[.slice va m vc, .slice (some ⟨b7, 0, none⟩) 256 256] w7 fun e w' => e = .returned (.bool y) /\ w7 = w') := by
      show Calls _ _ _ _ _
      rw [hy]
      exact equal2_c va (some ⟨b7, 0, none⟩) vc 256 m 256 b (rtBytes n L) hlm (rtBytes_len n L) w7 (hbb.out.up hb7 (Nat.le_refl _)) hbz
     have HHH : Hid (headN b = if y then some (n, L) else none) := by
      show _ = _
      unfold headN
      rw [<- HZZ.out, if_neg (by simp), <- HN.out.1, <- HL.out.1, hrt, Bool.true_and, hy]
     clear hb7 hbel hz HP6 hbb hblk7 hbz hq7 hz7 hrt hy
     go_wp2_with fail
     refine HQ7.out.mono ?_
     rintro e w8 ⟨rfl, rfl⟩
     cases y with
     | true =>
      have HH : Hid (headN b = some (n, L)) := HHH.out
      go_wp2_with (first
       | (refine wpList_load_row rfl 60 (.tmp 5) rfl pb rfl _ _ _ _ HP7.out Tryz.underlying60 rfl (by rw [roots17, rtA_size, HL.out.2.1]) ?_)
       | (refine wpList_store_row rfl 60 (.tmp 2) (.tmp 46) rfl w.heap.size (rtA n L) rfl rfl 60 _ HZ7.out (by rw [roots17, rtA_size, HL.out.2.1]) (by simp [rtA_size, HL.out.2.1]) (rtA_one _ _) ?_)
       | fail)
      refine bodyPost_ret (results_row_tmp rfl _ _ w.heap.size _ (rtA n L) (0, 0) _ rfl (setRow_heap _ _ _ _ _ _ HZ7.out) Tryz.underlying60 rfl (by rw [roots17, rtA_size, HL.out.2.1])) rfl ?_
      exact ⟨by rw [HH.out]; rfl, below_setRow HE7.out (Nat.le_refl _) _⟩
     | false =>
      have HH : Hid (headN b = none) := HHH.out
      go_wp2_with (first
       | (refine wpList_store_row rfl 60 (.tmp 2) (.tmp 45) rfl w.heap.size (rtA 0 (List.replicate 16 0)) rfl rfl 60 _ HZ7.out (by rw [roots17]; rfl) rfl (rtA_one _ _) ?_)
       | fail)
      refine bodyPost_ret (results_row_tmp rfl _ _ w.heap.size _ (rtA 0 (List.replicate 16 0)) (0, 0) _ rfl (setRow_heap _ _ _ _ _ _ HZ7.out) Tryz.underlying60 rfl (by rw [roots17]; rfl)) rfl ?_
      exact ⟨by rw [HH.out]; rfl, below_setRow HE7.out (Nat.le_refl _) _⟩
    ·have hrf : rightR n L = false := by simpa using hrt
     have HH : Hid (headN b = none) := by
      show _ = _
      unfold headN
      rw [<- HZZ.out, if_neg (by simp), <- HN.out.1, <- HL.out.1, hrf, Bool.false_and, if_neg (by simp)]
     by_cases h0 : n = 0 /\ L = List.replicate 16 0
     ·have hcz := rtbytes_zero wr
      rw [<- h0.2] at hcz
      have hn0 := h0.1
      subst hn0
      refine hcz.mono ?_
      rintro e w7 ⟨⟨b7, rfl, hq7, hz7, hblk7⟩, hb7⟩
      have HZ7 := Lib.hid ((hb7.block _ (lt_of_block hz.out)).trans hz.out)
      have HE7 : Hid (Below w.heap.size w w7) := hbel.out.trans (hb7.mono hbel.out.size)
      obtain ⟨Z, hZ⟩ : ∃ Z : List Nat, Z = List.replicate 256 0 := ⟨_, rfl⟩
      rw [<- hZ] at hblk7
      have hZl : Z.length = 256 := by rw [hZ]; simp
      have hbz := bytesAt_block (l := Z) (fun x hx => by rw [hZ] at hx; have := (List.mem_replicate.1 hx).2; omega) hblk7
      rw [hZl] at hbz
      have hne : decide (b = Z) = false := by
       rw [decide_eq_false_iff_not]
       intro h
       have h1 := HZZ.out
       rw [h, hZ] at h1
       have h2 := (zeroB_rep (List.replicate 256 0)).2 (by rw [List.length_replicate])
       rw [h2] at h1; cases h1
      have HQ7 : Hid (Calls Tryz.prog 66 #[.slice va m vc, .slice (some ⟨b7, 0, none⟩) 256 256] w7 fun e w' => e = .returned (.bool false) /\ w7 = w') := by
       show Calls _ _ _ _ _
       rw [<- hne]
       exact equal2_c va (some ⟨b7, 0, none⟩) vc 256 m 256 b Z hlm hZl w7 (hbb.out.up hb7 (Nat.le_refl _)) hbz
      clear hb7 hbel hz HP6 hbb hblk7 hbz hq7 hz7 hrt hrf hcz h0 hZ hZl hne
      go_wp2_with fail
      refine HQ7.out.mono ?_
      rintro e w8 ⟨rfl, rfl⟩
      go_wp2_with (first
       | (refine wpList_store_row rfl 60 (.tmp 2) (.tmp 45) rfl w.heap.size (rtA 0 (List.replicate 16 0)) rfl rfl 60 _ HZ7.out (by rw [roots17]; rfl) rfl (rtA_one _ _) ?_)
       | fail)
      refine bodyPost_ret (results_row_tmp rfl _ _ w.heap.size _ (rtA 0 (List.replicate 16 0)) (0, 0) _ rfl (setRow_heap _ _ _ _ _ _ HZ7.out) Tryz.underlying60 rfl (by rw [roots17]; rfl)) rfl ?_
      exact ⟨by rw [HH.out]; rfl, below_setRow HE7.out (Nat.le_refl _) _⟩
     ·refine (rtbytes_no n L HL.out.2.1 HN.out.2 HL.out.2.2 hrf h0 wr).mono ?_
      rintro e w7 ⟨rfl, hb7⟩
      have HZ7 := Lib.hid ((hb7.block _ (lt_of_block hz.out)).trans hz.out)
      have HE7 : Hid (Below w.heap.size w w7) := hbel.out.trans (hb7.mono hbel.out.size)
      clear hb7 hbel hz HP6 hbb hrt hrf h0
      go_wp2_with (first
       | (refine wpList_store_row rfl 60 (.tmp 2) (.tmp 45) rfl w.heap.size (rtA 0 (List.replicate 16 0)) rfl rfl 60 _ HZ7.out (by rw [roots17]; rfl) rfl (rtA_one _ _) ?_)
       | fail)
      refine bodyPost_ret (results_row_tmp rfl _ _ w.heap.size _ (rtA 0 (List.replicate 16 0)) (0, 0) _ rfl (setRow_heap _ _ _ _ _ _ HZ7.out) Tryz.underlying60 rfl (by rw [roots17]; rfl)) rfl ?_
      exact ⟨by rw [HH.out]; rfl, below_setRow HE7.out (Nat.le_refl _) _⟩
/-- a page as a value -/
def pgA (p : Pg) : Array Value := #[.int .i64 (p.kind : Int), .int .i64 (p.cls : Int), .int .i64 (p.run : Int), .int .i64 (p.size : Int), .int .u64 (p.ser : Int)]
def pgEq (p q : Pg) : Bool := p.kind == q.kind && p.cls == q.cls && p.run == q.run && p.size == q.size && p.ser == q.ser
theorem page5 : (Tryz.prog.info? 100).map (·.size) = some 5 := by kernel_rfl
theorem pgA_one (p : Pg) : (pgA p).all (·.oneCell') = true := by simp [pgA, Value.oneCell']
theorem eql_pg (p q : Pg) (w : World) : (binOp .eql 100 (.agg (pgA p)) (.agg (pgA q))).run Tryz.prog w = .ok (.bool (pgEq p q)) w := by
 obtain ⟨a, b, c, d, s⟩ := p
 obtain ⟨a', b', c', d', s'⟩ := q
 unfold pgA pgEq
 simp only
 go_simp
 by_cases h1 : a = a'
 ·rw [if_pos (by omega)]
  by_cases h2 : b = b'
  ·rw [if_pos (by omega)]
   by_cases h3 : c = c'
   ·rw [if_pos (by omega)]
    by_cases h4 : d = d'
    ·rw [if_pos (by omega)]
     by_cases h5 : s = s'
     ·rw [if_pos (by omega)]
      simp [h1, h2, h3, h4, h5]
     ·rw [if_neg (by omega), show (s == s') = false by simpa using h5]; simp
    ·rw [if_neg (by omega), show (d == d') = false by simpa using h4]; simp
   ·rw [if_neg (by omega), show (c == c') = false by simpa using h3]; simp
  ·rw [if_neg (by omega), show (b == b') = false by simpa using h2]; simp
 ·rw [if_neg (by omega), show (a == a') = false by simpa using h1]; simp
theorem quiet_eql_agg {ops : Array Oper} {C : World -> Prop} {Q : Act -> Prop} {rest : List Oper} {o : Oper} {a : Act} (hgd : Region.wanted o (yielded ops a.tmps) = true) (T ty : TypeId) (x y : Operand) (ho : o.op = .binOp .eql T x y ty)
  (xs ys : Array Value) (hx : a.eval x = .agg xs) (hy : a.eval y = .agg ys) (hm : Tryz.prog.eqGuardType Tryz.prog.depth T = false) (b : Bool) (hr : ∀ w, (binOp .eql T (.agg xs) (.agg ys)).run Tryz.prog w = .ok (.bool b) w)
  (h : wpQuiet Tryz.prog ops C Q rest (a.put o.dst (.bool b))) : wpQuiet Tryz.prog ops C Q (o :: rest) a :=
 wpQuiet_step fun K hK => by
  rw [if_pos hgd]
  refine ⟨.bool b, fun w hw => ?_, hK _ h⟩
  unfold Oper.quietAt execOp
  simp only [ho, hx, hy, Sem.run_bind, Sem.run_pure, run_eqGuard_agg _ _ _ _ _ _ _ hm, Result.andThen_ok, hr]
  exact ⟨rfl, rfl⟩
theorem plain_c (k : Nat) (w : World) :
  Calls Tryz.prog 104 #[.int .i64 (k : Int)] w fun e w' => e = .returned (.agg (pgA ⟨k, 0, 0, 0, 0⟩)) /\ Below w.heap.size w w' := by
 have HZ : Hid ((w.alloc (.cells #[.int .i64 0, .int .i64 0, .int .i64 0, .int .i64 0, .int .u64 0] 100)).heap[w.heap.size]? = some (.cells (pgA ⟨0, 0, 0, 0, 0⟩) 100 (0, 0))) := heap_new' _ _
 have HE := Lib.hid (below_box w (.cells #[.int .i64 0, .int .i64 0, .int .i64 0, .int .i64 0, .int .u64 0] 100))
 go_enter Tryz.func104, Tryz.ntmps104
 go_wp2_with (first
  | (refine wpList_store_row rfl 100 (.tmp 2) (.tmp 4) rfl w.heap.size (pgA ⟨k, 0, 0, 0, 0⟩) rfl rfl 100 _ HZ.out (by rw [page5]; rfl) rfl (pgA_one _) ?_)
  | fail)
 refine bodyPost_ret (results_cell_row rfl _ _ w.heap.size _ (pgA ⟨k, 0, 0, 0, 0⟩) (0, 0) _ rfl (setRow_heap _ _ _ _ _ _ HZ.out) Tryz.underlying100 rfl (by rw [page5]; rfl)) rfl ?_
 exact ⟨rfl, below_setRow HE.out (Nat.le_refl _) _⟩
theorem pgfree_c (p : Pg) (w : World) :
  Calls Tryz.prog 100 #[.agg (pgA p)] w fun e w' => e = .returned (.bool (freeP p)) /\ Below w.heap.size w w' := by
 go_enter Tryz.func100, Tryz.ntmps100
 go_wp2
 obtain ⟨W, hW⟩ : ∃ W, W = w.alloc (.cells (pgA p) 100) := ⟨_, rfl⟩
 rw [<- hW]
 have hWh : W.heap[w.heap.size]? = some (.cells (pgA p) 100 (0, 0)) := by rw [hW]; exact heap_new' _ _
 have hz : w.heap.size < W.heap.size := by rw [hW]; simp
 have hbW : Below w.heap.size w W := by rw [hW]; exact below_box _ _
 clear hW
 obtain ⟨S, f, hne, h1, h2⟩ := bclass W
 have HK : Hid (∀ s', (f s').heap[w.heap.size]? = some (.cells (pgA p) 100 (0, 0))) := fun s' => ((h1 s').block _ hz).trans hWh
 have H1 := Lib.hid h1
 have H2 := Lib.hid h2
 have HB := Lib.hid hbW
 have M1 : Hid (∀ x : S, Calls Tryz.prog 104 #[.int .i64 0] (f x) fun e w' => e = .returned (.agg (pgA ⟨0, 0, 0, 0, 0⟩)) /\ ∃ s', w' = f s') := fun x => bcall h1 h2 (plain_c 0 _)
 clear h1 h2 hbW
 refine wp_region_quiet (C := fun w' => ∃ s, w' = f s) (by kernel_rfl) (by kernel_rfl) (H2.out _ (Below.refl _ _).drew) ?_
 simp only
 repeat first | (refine quiet_load_rowG rfl 100 (.tmp 1) rfl w.heap.size rfl 100 (pgA p) (0, 0) _ (by rintro _ ⟨x, rfl⟩; exact HK.out x) Tryz.underlying100 rfl (by rw [page5]; rfl) ?_; simp only [Act.put, List.setIfInBounds_toArray, List.set_cons_succ, List.set_cons_zero]) | (refine quiet_eql_agg rfl 100 _ (.tmp 3) (.tmp 4) rfl (pgA p) (pgA ⟨0, 0, 0, 0, 0⟩) rfl rfl (by kernel_rfl) (freeP p) (fun w => eql_pg p _ w) ?_; simp only [Act.put, List.setIfInBounds_toArray, List.set_cons_succ, List.set_cons_zero]) | go_big_quiet_step ((with_reducible first | exact M1.out _))
 refine wpQuiet_nil ?_
 rintro _ ⟨s0, rfl⟩
 have b0 := Lib.hid (HB.out.trans ((H1.out s0).mono (by omega)))
 clear HK H1 H2 HB M1 hWh
 go_wp2
 go_ret
 exact ⟨rfl, b0.out⟩
theorem pgtail_c (p : Pg) (w : World) :
  Calls Tryz.prog 94 #[.agg (pgA p)] w fun e w' => e = .returned (.bool (tailP p)) /\ Below w.heap.size w w' := by
 go_enter Tryz.func94, Tryz.ntmps94
 go_wp2
 obtain ⟨W, hW⟩ : ∃ W, W = w.alloc (.cells (pgA p) 100) := ⟨_, rfl⟩
 rw [<- hW]
 have hWh : W.heap[w.heap.size]? = some (.cells (pgA p) 100 (0, 0)) := by rw [hW]; exact heap_new' _ _
 have hz : w.heap.size < W.heap.size := by rw [hW]; simp
 have hbW : Below w.heap.size w W := by rw [hW]; exact below_box _ _
 clear hW
 obtain ⟨S, f, hne, h1, h2⟩ := bclass W
 have HK : Hid (∀ s', (f s').heap[w.heap.size]? = some (.cells (pgA p) 100 (0, 0))) := fun s' => ((h1 s').block _ hz).trans hWh
 have H1 := Lib.hid h1
 have H2 := Lib.hid h2
 have HB := Lib.hid hbW
 have M1 : Hid (∀ x : S, Calls Tryz.prog 104 #[.int .i64 3] (f x) fun e w' => e = .returned (.agg (pgA ⟨3, 0, 0, 0, 0⟩)) /\ ∃ s', w' = f s') := fun x => bcall h1 h2 (plain_c 3 _)
 clear h1 h2 hbW
 refine wp_region_quiet (C := fun w' => ∃ s, w' = f s) (by kernel_rfl) (by kernel_rfl) (H2.out _ (Below.refl _ _).drew) ?_
 simp only
 repeat first | (refine quiet_load_rowG rfl 100 (.tmp 1) rfl w.heap.size rfl 100 (pgA p) (0, 0) _ (by rintro _ ⟨x, rfl⟩; exact HK.out x) Tryz.underlying100 rfl (by rw [page5]; rfl) ?_; simp only [Act.put, List.setIfInBounds_toArray, List.set_cons_succ, List.set_cons_zero]) | (refine quiet_eql_agg rfl 100 _ (.tmp 3) (.tmp 4) rfl (pgA p) (pgA ⟨3, 0, 0, 0, 0⟩) rfl rfl (by kernel_rfl) (tailP p) (fun w => eql_pg p _ w) ?_; simp only [Act.put, List.setIfInBounds_toArray, List.set_cons_succ, List.set_cons_zero]) | go_big_quiet_step ((with_reducible first | exact M1.out _))
 refine wpQuiet_nil ?_
 rintro _ ⟨s0, rfl⟩
 have b0 := Lib.hid (HB.out.trans ((H1.out s0).mono (by omega)))
 clear HK H1 H2 HB M1 hWh
 go_wp2
 go_ret
 exact ⟨rfl, b0.out⟩
theorem pages_c (n : Nat) (hn : n < 4611686018427387904) (w : World) :
  Calls Tryz.prog 105 #[.int .i64 (n : Int)] w fun e w' => e = .returned (if 120 < n /\ n <= 4096 then .tuple #[.int .i64 (pagesOf n : Int), .bool true] else .tuple #[.int .i64 0, .bool false]) /\ w = w' := by
 by_cases h1 : n <= 120
 ·have d1 : decide ((n : Int) <= 120) = true := by simp; omega
  have i1 : (n : Int) <= 120 := by omega
  rw [if_neg (by omega)]
  clear h1
  go_enter Tryz.func105, Tryz.ntmps105
  go_wp2
  go_ret2
  exact ⟨rfl, rfl⟩
 ·have d1 : decide ((n : Int) <= 120) = false := by simp; omega
  have i1 : ¬ (n : Int) <= 120 := by omega
  by_cases h2 : n <= 4096
  ·have d2 : decide ((n : Int) > 4096) = false := by simp; omega
   have i2 : ¬ 4096 < (n : Int) := by omega
   rw [if_pos (by omega)]
   have e3 : ((n : Int) + 255) / 256 = (pagesOf n : Int) := by unfold pagesOf; omega
   have e1 : IntKind.i64.wrap ((n : Int) + 256) = (n : Int) + 256 := IntWalk.i64_in _ (by omega)
   have e2 : IntKind.i64.wrap ((n : Int) + 256 - 1) = (n : Int) + 255 := by rw [show (n : Int) + 256 - 1 = (n : Int) + 255 by omega]; exact IntWalk.i64_in _ (by omega)
   have e4 : IntKind.i64.wrap (((n : Int) + 255).tdiv 256) = (pagesOf n : Int) := by
    rw [<- e3, Int.tdiv_eq_ediv_of_nonneg (by omega)]; exact IntWalk.i64_in _ (by omega)
   clear h1 h2 e3
   go_enter Tryz.func105, Tryz.ntmps105
   go_wp2
   go_ret2
   exact ⟨rfl, rfl⟩
  ·have d2 : decide ((n : Int) > 4096) = true := by simp; omega
   have i2 : 4096 < (n : Int) := by omega
   rw [if_neg (by omega)]
   clear h1 h2
   go_enter Tryz.func105, Tryz.ntmps105
   go_wp2
   go_ret2
   exact ⟨rfl, rfl⟩
theorem pgslots_c (p : Pg) (w : World) :
  Calls Tryz.prog 101 #[.agg (pgA p)] w fun e w' => e = .returned (.bool (slotsP p)) /\ Below w.heap.size w w' := by
 have HBLK := Lib.hid (heap_new' w (.cells (pgA p) 100))
 have HE := Lib.hid (below_box w (.cells (pgA p) 100))
 have c1 := (cells_at HBLK.out 1).trans (show _ = some (Value.int .i64 (p.cls : Int)) from rfl)
 obtain ⟨z, hz⟩ : ∃ z, z = sz p.cls := ⟨_, rfl⟩
 have HS := Lib.hid (fun w => size_c p.cls w)
 rw [<- hz] at HS
 have HEQ : Hid (∀ w, (binOp .eql 100 (.agg (pgA p)) (.agg (pgA ⟨1, p.cls, 0, 0, 0⟩))).run Tryz.prog w = .ok (.bool (pgEq p ⟨1, p.cls, 0, 0, 0⟩)) w) := fun w => eql_pg p _ w
 have hp : slotsP p = (pgEq p ⟨1, p.cls, 0, 0, 0⟩ && decide (0 < z)) := by
  have hd : decide (p.cls < 8) = decide (0 < z) := by
   rw [hz]
   have := sz_zero p.cls
   rw [decide_eq_decide]; omega
  unfold slotsP pgEq
  rw [hd]; simp
 have HP := Lib.hid hp
 generalize pgEq p ⟨1, p.cls, 0, 0, 0⟩ = r at *
 clear hz hp
 cases r with
 | false =>
  go_enter Tryz.func101, Tryz.ntmps101
  go_wp2_with (first
  | (refine wpList_load_row rfl 100 (.tmp 1) rfl w.heap.size rfl _ _ _ _ HBLK.out Tryz.underlying100 rfl (by rw [page5]; rfl) ?_)
  | (refine wpList_eql_agg rfl 100 _ (.tmp 3) (.tmp 6) rfl (pgA p) (pgA ⟨1, p.cls, 0, 0, 0⟩) rfl rfl (by kernel_rfl) false (HEQ.out _) ?_)
  | fail)
  go_ret
  exact ⟨by rw [HP.out]; rfl, HE.out⟩
 | true =>
  go_enter Tryz.func101, Tryz.ntmps101
  go_wp2_with (first
 | (refine wpList_load_row rfl 100 (.tmp 1) rfl w.heap.size rfl _ _ _ _ HBLK.out Tryz.underlying100 rfl (by rw [page5]; rfl) ?_)
 | (refine wpList_eql_agg rfl 100 _ (.tmp 3) (.tmp 6) rfl (pgA p) (pgA ⟨1, p.cls, 0, 0, 0⟩) rfl rfl (by kernel_rfl) true (HEQ.out _) ?_)
 | fail)
  refine (HS.out _).mono ?_
  rintro e w1 ⟨rfl, rfl⟩
  go_wp2
  go_ret
  exact ⟨by rw [HP.out]; rfl, HE.out⟩
theorem head_split (p : Pg) : headP p = (decide (120 < p.size /\ p.size <= 4096) && pgEq p ⟨2, 0, pagesOf p.size, p.size, p.ser⟩ && decide (0 < p.ser) && decide (p.ser <= 281474976710655)) := by
 unfold headP pgEq
 simp only
 rw [show decide (p.ser < 281474976710656) = decide (p.ser <= 281474976710655) by rw [decide_eq_decide]; omega]
 rw [show (p.size == p.size) = true by simp, show (p.ser == p.ser) = true by simp]
 by_cases h1 : 120 < p.size <;> by_cases h2 : p.size <= 4096 <;> simp [h1, h2]
theorem pghead_c (p : Pg) (hsz : p.size < 4611686018427387904) (w : World) :
  Calls Tryz.prog 102 #[.agg (pgA p)] w fun e w' => e = .returned (.bool (headP p)) /\ Below w.heap.size w w' := by
 have HBLK := Lib.hid (heap_new' w (.cells (pgA p) 100))
 have HE := Lib.hid (below_box w (.cells (pgA p) 100))
 have c3 := (cells_at HBLK.out 3).trans (show _ = some (Value.int .i64 (p.size : Int)) from rfl)
 have c4 := (cells_at HBLK.out 4).trans (show _ = some (Value.int .u64 (p.ser : Int)) from rfl)
 have HS := Lib.hid (fun w => pages_c p.size hsz w)
 have HEQ : Hid (∀ w, (binOp .eql 100 (.agg (pgA p)) (.agg (pgA ⟨2, 0, pagesOf p.size, p.size, p.ser⟩))).run Tryz.prog w = .ok (.bool (pgEq p ⟨2, 0, pagesOf p.size, p.size, p.ser⟩)) w) := fun w => eql_pg p _ w
 have HP := Lib.hid (head_split p)
 obtain ⟨n, hn⟩ : ∃ n, n = p.size := ⟨_, rfl⟩
 obtain ⟨s, hs⟩ : ∃ s, s = p.ser := ⟨_, rfl⟩
 obtain ⟨m, hm⟩ : ∃ m, m = pagesOf p.size := ⟨_, rfl⟩
 rw [<- hm, <- hn] at HS
 rw [<- hm, <- hn, <- hs] at HEQ HP
 rw [<- hn] at c3
 rw [<- hs] at c4
 generalize hr : pgEq p ⟨2, 0, m, n, s⟩ = r at *
 clear hr hn hs hm hsz
 by_cases h1 : 120 < n /\ n <= 4096
 ·rw [if_pos h1] at HS
  rw [decide_eq_true h1] at HP
  clear h1
  cases r with
  | false =>
   go_enter Tryz.func102, Tryz.ntmps102
   go_wp2_with fail
   refine (HS.out _).mono ?_
   rintro e w1 ⟨rfl, rfl⟩
   go_wp2_with (first
    | (refine load_row_w rfl 100 (.tmp 1) rfl w.heap.size rfl _ _ _ _ HBLK.out Tryz.underlying100 rfl (by rw [page5]; rfl) ?_)
    | (refine wpList_eql_agg rfl 100 _ (.tmp 13) (.tmp 19) rfl (pgA p) (pgA ⟨2, 0, m, n, s⟩) rfl rfl (by kernel_rfl) false (HEQ.out _) ?_)
    | fail)
   go_ret
   exact ⟨by rw [HP.out]; rfl, HE.out⟩
  | true =>
   by_cases h2 : 0 < s
   ·have d2 : decide ((s : Int) > 0) = true := by simp; omega
    have i2 : 0 < (s : Int) := by omega
    by_cases h3 : s <= 281474976710655
    ·have d3 : decide ((s : Int) <= 281474976710655) = true := by simp; omega
     have i3 : (s : Int) <= 281474976710655 := by omega
     have HP2 : Hid (headP p = true) := by show _ = _; rw [HP.out]; simp; omega
     clear h2 h3
     go_enter Tryz.func102, Tryz.ntmps102
     go_wp2_with fail
     refine (HS.out _).mono ?_
     rintro e w1 ⟨rfl, rfl⟩
     go_wp2_with (first
      | (refine load_row_w rfl 100 (.tmp 1) rfl w.heap.size rfl _ _ _ _ HBLK.out Tryz.underlying100 rfl (by rw [page5]; rfl) ?_)
      | (refine wpList_eql_agg rfl 100 _ (.tmp 13) (.tmp 19) rfl (pgA p) (pgA ⟨2, 0, m, n, s⟩) rfl rfl (by kernel_rfl) true (HEQ.out _) ?_)
      | fail)
     go_ret
     exact ⟨by rw [HP2.out]; rfl, HE.out⟩
    ·have d3 : decide ((s : Int) <= 281474976710655) = false := by simp; omega
     have i3 : ¬ (s : Int) <= 281474976710655 := by omega
     have HP2 : Hid (headP p = false) := by show _ = _; rw [HP.out]; simp; omega
     clear h2 h3
     go_enter Tryz.func102, Tryz.ntmps102
     go_wp2_with fail
     refine (HS.out _).mono ?_
     rintro e w1 ⟨rfl, rfl⟩
     go_wp2_with (first
      | (refine load_row_w rfl 100 (.tmp 1) rfl w.heap.size rfl _ _ _ _ HBLK.out Tryz.underlying100 rfl (by rw [page5]; rfl) ?_)
      | (refine wpList_eql_agg rfl 100 _ (.tmp 13) (.tmp 19) rfl (pgA p) (pgA ⟨2, 0, m, n, s⟩) rfl rfl (by kernel_rfl) true (HEQ.out _) ?_)
      | fail)
     go_ret
     exact ⟨by rw [HP2.out]; rfl, HE.out⟩
   ·have d2 : decide ((s : Int) > 0) = false := by simp; omega
    have i2 : ¬ 0 < (s : Int) := by omega
    have HP2 : Hid (headP p = false) := by show _ = _; rw [HP.out]; simp; omega
    clear h2
    go_enter Tryz.func102, Tryz.ntmps102
    go_wp2_with fail
    refine (HS.out _).mono ?_
    rintro e w1 ⟨rfl, rfl⟩
    go_wp2_with (first
     | (refine load_row_w rfl 100 (.tmp 1) rfl w.heap.size rfl _ _ _ _ HBLK.out Tryz.underlying100 rfl (by rw [page5]; rfl) ?_)
     | (refine wpList_eql_agg rfl 100 _ (.tmp 13) (.tmp 19) rfl (pgA p) (pgA ⟨2, 0, m, n, s⟩) rfl rfl (by kernel_rfl) true (HEQ.out _) ?_)
     | fail)
    go_ret
    exact ⟨by rw [HP2.out]; rfl, HE.out⟩
 ·rw [if_neg h1] at HS
  rw [decide_eq_false h1] at HP
  clear h1
  go_enter Tryz.func102, Tryz.ntmps102
  go_wp2_with fail
  refine (HS.out _).mono ?_
  rintro e w1 ⟨rfl, rfl⟩
  go_wp2
  go_ret
  exact ⟨by rw [HP.out]; rfl, HE.out⟩
def mayK (p : Pg) : Nat -> Bool
 | 0 => freeP p || slotsP p || headP p || tailP p
 | 1 => slotsP p || headP p || tailP p
 | 2 => headP p || tailP p
 | 3 => tailP p
 | _ => false
theorem oneP_order (p : Pg) : oneP p = (freeP p || slotsP p || headP p || tailP p) := rfl
theorem pgmay_c (p : Pg) (hsz : p.size < 4611686018427387904) (w : World) :
  Calls Tryz.prog 92 #[.agg (pgA p)] w fun e w' => e = .returned (.bool (oneP p)) /\ Below w.heap.size w w' := by
 have HBLK := Lib.hid (heap_new' w (.cells (pgA p) 100))
 have HE := Lib.hid (below_box w (.cells (pgA p) 100))
 have HF := Lib.hid (fun w => pgfree_c p w)
 have HS := Lib.hid (fun w => pgslots_c p w)
 have HH := Lib.hid (fun w => pghead_c p hsz w)
 have HT := Lib.hid (fun w => pgtail_c p w)
 have HO := Lib.hid (oneP_order p)
 clear hsz
 go_enter Tryz.func92, Tryz.ntmps92
 go_wp2
 have HBF : Hid (((w.alloc (.cells (pgA p) 100)).alloc (.cells #[.func (.func 100) #[] #[], .func (.func 101) #[] #[], .func (.func 102) #[] #[], .func (.func 94) #[] #[]] 102)).heap[w.heap.size + 1]? = some (.cells #[.func (.func 100) #[] #[], .func (.func 101) #[] #[], .func (.func 102) #[] #[], .func (.func 94) #[] #[]] 102 (0, 0))) := by
  show _ = _; rw [show w.heap.size + 1 = (w.alloc (.cells (pgA p) 100)).heap.size by simp]; exact heap_new' _ _
 have HB0 : Hid (((w.alloc (.cells (pgA p) 100)).alloc (.cells #[.func (.func 100) #[] #[], .func (.func 101) #[] #[], .func (.func 102) #[] #[], .func (.func 94) #[] #[]] 102)).heap[w.heap.size]? = some (.cells (pgA p) 100 (0, 0))) := (heap_old' _ _ _ (by simp)).trans HBLK.out
 have HE0 : Hid (Below w.heap.size w ((w.alloc (.cells (pgA p) 100)).alloc (.cells #[.func (.func 100) #[] #[], .func (.func 101) #[] #[], .func (.func 102) #[] #[], .func (.func 94) #[] #[]] 102))) := HE.out.alloc (by simp) _
 generalize (w.alloc (.cells (pgA p) 100)).alloc (.cells #[.func (.func 100) #[] #[], .func (.func 101) #[] #[], .func (.func 102) #[] #[], .func (.func 94) #[] #[]] 102) = w0 at *
 go_loopw [7] (fun vi wr => ∃ k : Nat, k <= 4 /\ vi = .int .i64 (k : Int) /\ Hid (oneP p = mayK p k) /\ Hid (wr.heap[w.heap.size + 1]? = some (.cells #[.func (.func 100) #[] #[], .func (.func 101) #[] #[], .func (.func 102) #[] #[], .func (.func 94) #[] #[]] 102 (0, 0))) /\ Hid (wr.heap[w.heap.size]? = some (.cells (pgA p) 100 (0, 0))) /\ Hid (Below w.heap.size w wr)) (fun vi _ => 4 - (intOf vi).toNat)
 case atStart => exact ⟨0, by omega, rfl, HO.out, HBF.out, HB0.out, HE0.out⟩
 case round =>
  clear HO HBF HB0 HE0 HBLK HE
  obtain ⟨k, hk, rfl, ho, hf, hb, hbel⟩ := hrel
  by_cases hlt : k < 4
  ·have hd : decide ((k : Int) < 4) = true := by simp; omega
   have dl : (k : Int) < 4 := by omega
   have dk0 : ¬ (k : Int) < 0 := by omega
   have ek : IntKind.i64.wrap ((k : Int) + 1) = (k : Int) + 1 := IntWalk.i64_in _ (by omega)
   have hc : k = 0 \/ k = 1 \/ k = 2 \/ k = 3 := by omega
   clear hk hlt
   rcases hc with hk | hk | hk | hk
   ·have cc : wr.cell? ⟨w.heap.size + 1, k, none⟩ = some (.func (.func 100) #[] #[]) := by rw [cells_at hf.out k, hk]; rfl
    have ho2 := ho.out
    rw [hk] at ho2
    have HK := Lib.hid hk
    cases hr : freeP p with
    | true =>
     have HR : Hid (oneP p = true) := by show _ = _; rw [ho2]; simp [mayK, hr]
     have HC := Lib.hid HF.out
     rw [hr] at HC
     clear ho ho2 hk hr
     go_wp2_with (first
      | (refine wpList_load_row rfl 100 (.tmp 1) rfl w.heap.size rfl _ _ _ _ hb.out Tryz.underlying100 rfl (by rw [page5]; rfl) ?_)
      | fail)
     refine (HC.out wr).mono ?_
     rintro e w1 ⟨rfl, hb1⟩
     have HE1 : Hid (Below w.heap.size w w1) := hbel.out.trans (hb1.mono hbel.out.size)
     clear hb1 hbel hb hf
     go_wp2
     go_ret
     exact ⟨by rw [HR.out]; rfl, HE1.out⟩
    | false =>
     have HR : Hid (oneP p = mayK p (k + 1)) := by show _ = _; rw [ho2, hk]; simp [mayK, hr]
     have HC := Lib.hid HF.out
     rw [hr] at HC
     clear ho ho2 hk hr
     go_wp2_with (first
      | (refine wpList_load_row rfl 100 (.tmp 1) rfl w.heap.size rfl _ _ _ _ hb.out Tryz.underlying100 rfl (by rw [page5]; rfl) ?_)
      | fail)
     refine (HC.out wr).mono ?_
     rintro e w1 ⟨rfl, hb1⟩
     have HE1 : Hid (Below w.heap.size w w1) := hbel.out.trans (hb1.mono hbel.out.size)
     have HB1 := Lib.hid ((hb1.block _ (lt_of_block hb.out)).trans hb.out)
     have HF1 := Lib.hid ((hb1.block _ (lt_of_block hf.out)).trans hf.out)
     clear hb1 hbel hb hf
     go_wp2
     go_roundw
     case rel => exact ⟨k + 1, by have := HK.out; omega, by go_num, HR.out, HF1.out, HB1.out, HE1.out⟩
     case measure => simp [intOf]; have := HK.out; omega
   ·have cc : wr.cell? ⟨w.heap.size + 1, k, none⟩ = some (.func (.func 101) #[] #[]) := by rw [cells_at hf.out k, hk]; rfl
    have ho2 := ho.out
    rw [hk] at ho2
    have HK := Lib.hid hk
    cases hr : slotsP p with
    | true =>
     have HR : Hid (oneP p = true) := by show _ = _; rw [ho2]; simp [mayK, hr]
     have HC := Lib.hid HS.out
     rw [hr] at HC
     clear ho ho2 hk hr
     go_wp2_with (first
      | (refine wpList_load_row rfl 100 (.tmp 1) rfl w.heap.size rfl _ _ _ _ hb.out Tryz.underlying100 rfl (by rw [page5]; rfl) ?_)
      | fail)
     refine (HC.out wr).mono ?_
     rintro e w1 ⟨rfl, hb1⟩
     have HE1 : Hid (Below w.heap.size w w1) := hbel.out.trans (hb1.mono hbel.out.size)
     clear hb1 hbel hb hf
     go_wp2
     go_ret
     exact ⟨by rw [HR.out]; rfl, HE1.out⟩
    | false =>
     have HR : Hid (oneP p = mayK p (k + 1)) := by show _ = _; rw [ho2, hk]; simp [mayK, hr]
     have HC := Lib.hid HS.out
     rw [hr] at HC
     clear ho ho2 hk hr
     go_wp2_with (first
      | (refine wpList_load_row rfl 100 (.tmp 1) rfl w.heap.size rfl _ _ _ _ hb.out Tryz.underlying100 rfl (by rw [page5]; rfl) ?_)
      | fail)
     refine (HC.out wr).mono ?_
     rintro e w1 ⟨rfl, hb1⟩
     have HE1 : Hid (Below w.heap.size w w1) := hbel.out.trans (hb1.mono hbel.out.size)
     have HB1 := Lib.hid ((hb1.block _ (lt_of_block hb.out)).trans hb.out)
     have HF1 := Lib.hid ((hb1.block _ (lt_of_block hf.out)).trans hf.out)
     clear hb1 hbel hb hf
     go_wp2
     go_roundw
     case rel => exact ⟨k + 1, by have := HK.out; omega, by go_num, HR.out, HF1.out, HB1.out, HE1.out⟩
     case measure => simp [intOf]; have := HK.out; omega
   ·have cc : wr.cell? ⟨w.heap.size + 1, k, none⟩ = some (.func (.func 102) #[] #[]) := by rw [cells_at hf.out k, hk]; rfl
    have ho2 := ho.out
    rw [hk] at ho2
    have HK := Lib.hid hk
    cases hr : headP p with
    | true =>
     have HR : Hid (oneP p = true) := by show _ = _; rw [ho2]; simp [mayK, hr]
     have HC := Lib.hid HH.out
     rw [hr] at HC
     clear ho ho2 hk hr
     go_wp2_with (first
      | (refine wpList_load_row rfl 100 (.tmp 1) rfl w.heap.size rfl _ _ _ _ hb.out Tryz.underlying100 rfl (by rw [page5]; rfl) ?_)
      | fail)
     refine (HC.out wr).mono ?_
     rintro e w1 ⟨rfl, hb1⟩
     have HE1 : Hid (Below w.heap.size w w1) := hbel.out.trans (hb1.mono hbel.out.size)
     clear hb1 hbel hb hf
     go_wp2
     go_ret
     exact ⟨by rw [HR.out]; rfl, HE1.out⟩
    | false =>
     have HR : Hid (oneP p = mayK p (k + 1)) := by show _ = _; rw [ho2, hk]; simp [mayK, hr]
     have HC := Lib.hid HH.out
     rw [hr] at HC
     clear ho ho2 hk hr
     go_wp2_with (first
      | (refine wpList_load_row rfl 100 (.tmp 1) rfl w.heap.size rfl _ _ _ _ hb.out Tryz.underlying100 rfl (by rw [page5]; rfl) ?_)
      | fail)
     refine (HC.out wr).mono ?_
     rintro e w1 ⟨rfl, hb1⟩
     have HE1 : Hid (Below w.heap.size w w1) := hbel.out.trans (hb1.mono hbel.out.size)
     have HB1 := Lib.hid ((hb1.block _ (lt_of_block hb.out)).trans hb.out)
     have HF1 := Lib.hid ((hb1.block _ (lt_of_block hf.out)).trans hf.out)
     clear hb1 hbel hb hf
     go_wp2
     go_roundw
     case rel => exact ⟨k + 1, by have := HK.out; omega, by go_num, HR.out, HF1.out, HB1.out, HE1.out⟩
     case measure => simp [intOf]; have := HK.out; omega
   ·have cc : wr.cell? ⟨w.heap.size + 1, k, none⟩ = some (.func (.func 94) #[] #[]) := by rw [cells_at hf.out k, hk]; rfl
    have ho2 := ho.out
    rw [hk] at ho2
    have HK := Lib.hid hk
    cases hr : tailP p with
    | true =>
     have HR : Hid (oneP p = true) := by show _ = _; rw [ho2]; simp [mayK, hr]
     have HC := Lib.hid HT.out
     rw [hr] at HC
     clear ho ho2 hk hr
     go_wp2_with (first
      | (refine wpList_load_row rfl 100 (.tmp 1) rfl w.heap.size rfl _ _ _ _ hb.out Tryz.underlying100 rfl (by rw [page5]; rfl) ?_)
      | fail)
     refine (HC.out wr).mono ?_
     rintro e w1 ⟨rfl, hb1⟩
     have HE1 : Hid (Below w.heap.size w w1) := hbel.out.trans (hb1.mono hbel.out.size)
     clear hb1 hbel hb hf
     go_wp2
     go_ret
     exact ⟨by rw [HR.out]; rfl, HE1.out⟩
    | false =>
     have HR : Hid (oneP p = mayK p (k + 1)) := by show _ = _; rw [ho2, hk]; simp [mayK, hr]
     have HC := Lib.hid HT.out
     rw [hr] at HC
     clear ho ho2 hk hr
     go_wp2_with (first
      | (refine wpList_load_row rfl 100 (.tmp 1) rfl w.heap.size rfl _ _ _ _ hb.out Tryz.underlying100 rfl (by rw [page5]; rfl) ?_)
      | fail)
     refine (HC.out wr).mono ?_
     rintro e w1 ⟨rfl, hb1⟩
     have HE1 : Hid (Below w.heap.size w w1) := hbel.out.trans (hb1.mono hbel.out.size)
     have HB1 := Lib.hid ((hb1.block _ (lt_of_block hb.out)).trans hb.out)
     have HF1 := Lib.hid ((hb1.block _ (lt_of_block hf.out)).trans hf.out)
     clear hb1 hbel hb hf
     go_wp2
     go_roundw
     case rel => exact ⟨k + 1, by have := HK.out; omega, by go_num, HR.out, HF1.out, HB1.out, HE1.out⟩
     case measure => simp [intOf]; have := HK.out; omega
  ·have hk4 : k = 4 := by omega
   have hd : decide ((k : Int) < 4) = false := by simp; omega
   have dl : ¬ (k : Int) < 4 := by omega
   have HR : Hid (oneP p = false) := by show _ = _; rw [ho.out, hk4]; rfl
   clear ho hk4 hk hlt
   go_wp2
   go_ret
   exact ⟨by rw [HR.out]; rfl, hbel.out⟩
theorem pgbad_c (p : Pg) (hsz : p.size < 4611686018427387904) (w : World) :
  Calls Tryz.prog 68 #[.agg (pgA p)] w fun e w' => e = .returned (.bool (!oneP p)) /\ Below w.heap.size w w' := by
 have HBLK := Lib.hid (heap_new' w (.cells (pgA p) 100))
 have HE := Lib.hid (below_box w (.cells (pgA p) 100))
 have HM := Lib.hid (fun w => pgmay_c p hsz w)
 clear hsz
 generalize oneP p = r at *
 go_enter Tryz.func68, Tryz.ntmps68
 go_wp2_with (first
  | (refine wpList_load_row rfl 100 (.tmp 1) rfl w.heap.size rfl _ _ _ _ HBLK.out Tryz.underlying100 rfl (by rw [page5]; rfl) ?_)
  | fail)
 refine (HM.out _).mono ?_
 rintro e w1 ⟨rfl, hb1⟩
 have HE1 : Hid (Below w.heap.size w w1) := HE.out.trans (hb1.mono HE.out.size)
 clear hb1
 go_wp2
 go_ret
 exact ⟨rfl, HE1.out⟩
end Go.Proofs.YtpbmjfjnmcpieaaGreat
