/- Texts AesZ, RKey, Free, RndG, put together by pack.py. -/
import Derived.Test.YtinjafacnekkcaaSPi
import Derived.Test.YtinjafacnekkcaaSPp
import Derived.Test.YtinjafacnekkcaaSPa
import Derived.RangeFuncNested
import Derived.RangeFuncBound
import Derived.RangeFuncCalls
import Derived.RangeFuncLeaves
import Derived.Shelf.Abstract
import Derived.Shelf.RegionOpen
import Derived.WalkKit
import Derived.OwnWalkIn
import Derived.TacticsInMore
import Derived.LoopNIn
import Derived.LoopIn
import Derived.OrdersIn
import Derived.OrdersHeld
set_option linter.unusedVariables false
set_option linter.unusedSimpArgs false
namespace Go.Proofs.Ytinjafacnekkcaa
open Go Go.RowKit GfM
end Go.Proofs.Ytinjafacnekkcaa
namespace Go.Proofs.Ytinjafacnekkcaa
open Go Go.RowKit GfM
theorem rnew_key (key : List Nat) (hkl : key.length = 16 ∨ key.length = 32) (hkb : ∀ x ∈ key, x < 256) (gk cap : Nat) (hcap : key.length ≤ cap) (w : World) (hg : gk < w.heap.size) (hk : ∀ j, j < key.length → w.cell? ⟨gk, j, none⟩ = some (.int .u8 ((key.getD j 0 : Nat) : Int))) :
    Calls Try.prog 5 #[.slice (some ⟨gk, 0, none⟩) key.length cap] w fun e w' => ∃ c g cp, e = .returned (.pointer (some ⟨c, 0, none⟩)) ∧ RCip w' c g (4 * (key.length / 4 + 7)) cp (roundsK key) (wordsK key) ∧ Below w.heap.size w w' :=
  rnew_c (key.length / 4) gk 0 key.length cap (by omega) key (by omega) (by omega) hkb hcap w hg (fun j hj => by rw [Nat.zero_add]; exact hk j (by omega))
end Go.Proofs.Ytinjafacnekkcaa
namespace Go.Proofs.Ytinjafacnekkcaa
open Go Go.RowKit
namespace Fre
section
variable {P : Program} {ops : Array Oper}
/-- an operation whose operands read E, in world w: it ends with a value and a world of R -/
def Does (P : Program) (E : Operand → Value) (o : Oper) (w : World) (R : Value → World → Prop) : Prop :=
  match (execOp E o).run P w with
  | .ok (.value v) w' => R v w'
  | .ok .skip w' => R undef w'
  | .ok (.enter f args) w' => Calls P f args w' fun e w'' => ∃ v, e = .returned v ∧ R v w''
  | _ => False
theorem Does.value {E : Operand → Value} {o : Oper} {w w' : World} {v : Value} {R : Value → World → Prop} (h : (execOp E o).run P w = .ok (.value v) w') (hR : R v w') : Does P E o w R := by
  unfold Does; rw [h]; exact hR
theorem Does.skip {E : Operand → Value} {o : Oper} {w w' : World} {R : Value → World → Prop} (h : (execOp E o).run P w = .ok .skip w') (hR : R undef w') : Does P E o w R := by
  unfold Does; rw [h]; exact hR
theorem Does.enter {E : Operand → Value} {o : Oper} {w w' : World} {f : FuncId} {args : Array Value} {R : Value → World → Prop} (h : (execOp E o).run P w = .ok (.enter f args) w') (hR : Calls P f args w' fun e w'' => ∃ v, e = .returned v ∧ R v w'') : Does P E o w R := by
  unfold Does; rw [h]; exact hR
theorem Does.wp {a : Act} {o : Oper} {w : World} {R : Value → World → Prop} {K : Act → World → Prop} {Q : Exit → Act → World → Prop} (h : Does P a.eval o w R) (hK : ∀ v w', R v w' → K (a.put o.dst v) w') : o.wp P a w K Q := by
  unfold Oper.wp
  unfold Does at h
  generalize (execOp a.eval o).run P w = r at *
  cases r with
  | halt x w' => cases x <;> exact h.elim
  | ok n w' =>
    cases n with
    | value v => exact hK _ _ h
    | skip => exact hK _ _ h
    | enter f args =>
      refine Calls.mono h ?_
      rintro e w'' ⟨v, rfl, hv⟩
      exact hK _ _ hv
    | _ => exact h.elim
def dstOf (ops : Array Oper) (j : Nat) : Option Tmp := (ops[j]?).bind (·.dst)
def Agree (ops : Array Oper) (a0 a : Act) (listed : Array Bool) (vs : Nat → Value) : Prop :=
  a.defers = a0.defers ∧ a.tmps.size = a0.tmps.size ∧ (∀ j t, j < ops.size → dstOf ops j = some t → listed.getD j false = true → a.tmps[t]? = some (vs j)) ∧
    ∀ t, (∀ j, j < ops.size → dstOf ops j = some t → listed.getD j false = false) → a.tmps[t]? = a0.tmps[t]?
/-- the temporaries behind the region -/
def finT (ops : Array Oper) (vs : Nat → Value) (T : Array Value) : Nat → Array Value
  | 0 => T
  | n + 1 => match dstOf ops n with
    | some d => (finT ops vs T n).setIfInBounds d (vs n)
    | none => finT ops vs T n
/-- no guards, no edge to what stands behind, destinations apart and in bounds -/
def fit (md : Region.Mode) (ops : Array Oper) (N : Nat) : Bool :=
  (List.range ops.size).all fun j => match ops[j]? with
    | none => false
    | some o => o.guard.isNone && (o.after.all fun e => !Region.binds md e || decide (e.on < j)) && (match o.dst with
      | none => true
      | some d => decide (d < N) && (List.range j).all fun k => dstOf ops k != some d)
structure Fits (md : Region.Mode) (ops : Array Oper) (N : Nat) : Prop where
  guard : ∀ (j : Nat) (o : Oper), ops[j]? = some o → o.guard = none
  back : ∀ (j : Nat) (o : Oper) e, ops[j]? = some o → e ∈ o.after → Region.binds md e = true → e.on < j
  inb : ∀ j d, dstOf ops j = some d → d < N
  apart : ∀ j k d, j < ops.size → k < ops.size → dstOf ops j = some d → dstOf ops k = some d → j = k
theorem fits_of {md : Region.Mode} {N : Nat} (h : fit md ops N = true) : Fits md ops N := by
  have hj : ∀ (j : Nat) (o : Oper), ops[j]? = some o → o.guard = none ∧ (∀ e ∈ o.after, Region.binds md e = true → e.on < j) ∧ (∀ d, o.dst = some d → d < N ∧ ∀ k, k < j → dstOf ops k ≠ some d) := by
    intro j o ho
    have hlt : j < ops.size := (Array.getElem?_eq_some_iff.1 ho).1
    unfold fit at h
    rw [List.all_eq_true] at h
    have h1 := h j (List.mem_range.2 hlt)
    simp only [ho, Bool.and_eq_true] at h1
    refine ⟨by simpa using h1.1.1, fun e he hb => ?_, fun d hd => ?_⟩
    · have := h1.1.2
      rw [Array.all_eq_true_iff_forall_mem] at this
      have h3 := this e he
      rw [hb] at h3
      simpa using h3
    · have h2 := h1.2
      rw [hd] at h2
      simp only [Bool.and_eq_true, decide_eq_true_eq, List.all_eq_true] at h2
      exact ⟨h2.1, fun k hk => by simpa using h2.2 k (List.mem_range.2 hk)⟩
  have hd : ∀ j d, dstOf ops j = some d → ∃ o, ops[j]? = some o ∧ o.dst = some d := by
    intro j d h
    unfold dstOf at h
    cases ho : ops[j]? with
    | none => rw [ho] at h; cases h
    | some o => rw [ho] at h; exact ⟨o, rfl, h⟩
  refine ⟨fun j o ho => (hj j o ho).1, fun j o e ho he hb => (hj j o ho).2.1 e he hb, fun j d h => ?_, fun j k d h1 h2 h3 h4 => ?_⟩
  · obtain ⟨o, ho, hdd⟩ := hd j d h
    exact ((hj j o ho).2.2 d hdd).1
  · obtain ⟨o, ho, hdd⟩ := hd j d h3
    obtain ⟨o', ho', hdd'⟩ := hd k d h4
    rcases Nat.lt_trichotomy j k with h | h | h
    · exact absurd h3 (((hj k o' ho').2.2 d hdd').2 j h)
    · exact h
    · exact absurd h4 (((hj j o ho).2.2 d hdd).2 k h)
theorem finT_size (vs : Nat → Value) (T : Array Value) : ∀ n, (finT ops vs T n).size = T.size := by
  intro n
  induction n with
  | zero => rfl
  | succ n ih => unfold finT; split <;> simp [ih]
theorem finT_get {md : Region.Mode} {N : Nat} (hf : Fits md ops N) (vs : Nat → Value) (T : Array Value) (hN : T.size = N) : ∀ n, n ≤ ops.size → ∀ t,
    (∀ j, j < n → dstOf ops j = some t → (finT ops vs T n)[t]? = some (vs j)) ∧ ((∀ j, j < n → dstOf ops j ≠ some t) → (finT ops vs T n)[t]? = T[t]?) := by
  intro n
  induction n with
  | zero => intro _ t; exact ⟨fun j h => by omega, fun _ => rfl⟩
  | succ n ih =>
    intro hn t
    obtain ⟨ih1, ih2⟩ := ih (by omega) t
    unfold finT
    cases hd : dstOf ops n with
    | none =>
      refine ⟨fun j hj hjt => ?_, fun h => ih2 fun j hj => h j (by omega)⟩
      rcases Nat.lt_or_eq_of_le (Nat.le_of_lt_succ hj) with h | h
      · exact ih1 j h hjt
      · subst h; rw [hd] at hjt; cases hjt
    | some d =>
      simp only
      by_cases hdt : d = t
      · subst hdt
        have hlt : d < (finT ops vs T n).size := by rw [finT_size, hN]; exact hf.inb n d hd
        refine ⟨fun j hj hjt => ?_, fun h => absurd hd (h n (by omega))⟩
        have : j = n := hf.apart j n d (by omega) (by omega) hjt hd
        subst this
        rw [Array.getElem?_setIfInBounds]; simp [hlt]
      · have e : ((finT ops vs T n).setIfInBounds d (vs n))[t]? = (finT ops vs T n)[t]? := by
          rw [Array.getElem?_setIfInBounds]; simp [hdt]
        rw [e]
        refine ⟨fun j hj hjt => ?_, fun h => ih2 fun j hj => h j (by omega)⟩
        rcases Nat.lt_or_eq_of_le (Nat.le_of_lt_succ hj) with h | h
        · exact ih1 j h hjt
        · subst h; rw [hd] at hjt; cases hjt; exact absurd rfl hdt
theorem Agree.fin {md : Region.Mode} {N : Nat} (hf : Fits md ops N) {a0 a : Act} (hN : a0.tmps.size = N) {listed : Array Bool} {vs : Nat → Value} (h : Agree ops a0 a listed vs) (hall : ∀ j, j < ops.size → listed.getD j false = true) : a = ⟨finT ops vs a0.tmps ops.size, a0.defers⟩ := by
  obtain ⟨h1, h2, h3, h4⟩ := h
  obtain ⟨T, D⟩ := a
  simp only at h1 h2 h3 h4
  subst h1
  congr 1
  apply Array.ext_getElem?
  intro t
  obtain ⟨k1, k2⟩ := finT_get hf vs a0.tmps hN ops.size (Nat.le_refl _) t
  by_cases hx : ∃ j, j < ops.size ∧ dstOf ops j = some t
  · obtain ⟨j, hj, hd⟩ := hx
    rw [k1 j hj hd, h3 j t hj hd (hall j hj)]
  · rw [k2 (fun j hj hd => hx ⟨j, hj, hd⟩)]
    exact h4 t fun j hj hd => absurd ⟨j, hj, hd⟩ hx
theorem Agree.step {md : Region.Mode} {N : Nat} (hf : Fits md ops N) {a0 a : Act} (hN : a0.tmps.size = N) {listed : Array Bool} {vs : Nat → Value} (h : Agree ops a0 a listed vs) {i : Nat} (hi : i < ops.size) (hl : listed.size = ops.size) (hun : listed.getD i true = false) (v : Value) :
    Agree ops a0 (a.put (dstOf ops i) v) (listed.setIfInBounds i true) (fun j => if j = i then v else vs j) := by
  obtain ⟨h1, h2, h3, h4⟩ := h
  have hg : ∀ j, j ≠ i → (listed.setIfInBounds i true).getD j false = listed.getD j false := fun j hj => by
    simp [Array.getD_eq_getD_getElem?, Array.getElem?_setIfInBounds, Ne.symm hj]
  have hgi : (listed.setIfInBounds i true).getD i false = true := by
    simp [Array.getD_eq_getD_getElem?, Array.getElem?_setIfInBounds, hl, hi]
  have hgf : ∀ j, j < ops.size → listed.getD j false = listed.getD j true := fun j hj => by
    simp [Array.getD_eq_getD_getElem?, hl, hj]
  cases hd : dstOf ops i with
  | none =>
    refine ⟨h1, h2, fun j t hj hjt hlj => ?_, fun t ht => h4 t fun j hj hjt => ?_⟩
    · have hji : j ≠ i := fun e => by subst e; rw [hd] at hjt; cases hjt
      rw [hg j hji] at hlj
      simp only [if_neg hji]
      exact h3 j t hj hjt hlj
    · have hji : j ≠ i := fun e => by subst e; rw [hd] at hjt; cases hjt
      rw [← hg j hji]; exact ht j hj hjt
  | some d =>
    have hdN : d < a.tmps.size := by rw [h2, hN]; exact hf.inb i d hd
    refine ⟨h1, ?_, fun j t hj hjt hlj => ?_, fun t ht => ?_⟩
    · show (a.tmps.setIfInBounds d v).size = _
      rw [Array.size_setIfInBounds]; exact h2
    · show (a.tmps.setIfInBounds d v)[t]? = _
      by_cases hji : j = i
      · subst hji
        rw [hd] at hjt
        cases hjt
        rw [Array.getElem?_setIfInBounds]; simp [hdN]
      · have hdt : d ≠ t := fun e => hji (hf.apart j i t hj hi hjt (by rw [hd, e]))
        rw [hg j hji] at hlj
        rw [Array.getElem?_setIfInBounds]
        simp only [if_neg hdt, if_neg hji]
        exact h3 j t hj hjt hlj
    · show (a.tmps.setIfInBounds d v)[t]? = _
      have hdt : d ≠ t := fun e => by
        have := ht i hi (by rw [hd, e])
        rw [hgi] at this; cases this
      rw [Array.getElem?_setIfInBounds]
      simp only [if_neg hdt]
      refine h4 t fun j hj hjt => ?_
      have hji : j ≠ i := fun e => by subst e; rw [hd] at hjt; cases hjt; exact hdt rfl
      rw [← hg j hji]; exact ht j hj hjt
/-- which operations operation i waits for -/
def waits (md : Region.Mode) (ops : Array Oper) (i j : Nat) : Bool := ((ops[i]?).map fun o => o.after.any fun e => Region.binds md e && e.on == j).getD false
/-- what operation i is to be shown for -/
def Step (P : Program) (md : Region.Mode) (ops : Array Oper) (a0 : Act) (w0 : World) (V : Nat → Value → World → Prop) (St : World → World → Prop) (i : Nat) : Prop :=
  ∀ (E : Operand → Value) (w : World), (∀ v, E (.const v) = v) → (∀ f, E (.func f) = .func (.func f) #[] #[]) → (∀ g, E (.global g) = .pointer (some ⟨g, 0, none⟩)) →
    (∀ t, (∀ j, j < ops.size → dstOf ops j ≠ some t) → E (.tmp t) = a0.tmps.getD t undef) → (∀ j t, waits md ops i j = true → dstOf ops j = some t → V j (E (.tmp t)) w) → (∀ j, waits md ops i j = true → dstOf ops j = none → ∃ v, V j v w) → St w0 w →
    ∀ o, ops[i]? = some o → Does P E o w fun v w' => V i v w' ∧ St w w'
theorem any_free {md : Region.Mode} {Q : Exit → Act → World → Prop} {a0 : Act} {w0 : World} {N : Nat} (hf : Fits md ops N) (hN : a0.tmps.size = N) (V : Nat → Value → World → Prop) (St : World → World → Prop)
    (htr : ∀ a b c, St a b → St b c → St a c) (hst : ∀ j v w w', j < ops.size → V j v w → St w w' → V j v w') (hop : ∀ i, i < ops.size → Step P md ops a0 w0 V St i)
    (hQ : ∀ (vs : Nat → Value) w, (∀ j, j < ops.size → V j (vs j) w) → St w0 w → Q .normal ⟨finT ops vs a0.tmps ops.size, a0.defers⟩ w) :
    ∀ (fuel : Nat) (listed : Array Bool) (a : Act) (w : World) (vs : Nat → Value), listed.size = ops.size → ((List.range ops.size).filter fun j => !listed.getD j true).length ≤ fuel →
      Agree ops a0 a listed vs → (∀ j, j < ops.size → listed.getD j false = true → V j (vs j) w) → St w0 w → wpAny P md ops Q fuel listed a w := by
  have hgf : ∀ (listed : Array Bool), listed.size = ops.size → ∀ j, j < ops.size → listed.getD j false = listed.getD j true := fun listed hl j hj => by
    simp [Array.getD_eq_getD_getElem?, hl, hj]
  have hend : ∀ (listed : Array Bool) (a : Act) (w : World) (vs : Nat → Value), listed.size = ops.size → Agree ops a0 a listed vs → (∀ j, j < ops.size → listed.getD j false = true → V j (vs j) w) → St w0 w → Region.ready md ops listed = [] → Q .normal a w := by
    intro listed a w vs hl hA hV hS hr
    have hall : ∀ j, j < ops.size → listed.getD j false = true := by
      intro j
      induction j using Nat.strongRecOn with
      | ind j ih =>
        intro hj
        cases hc : listed.getD j false with
        | true => rfl
        | false =>
          have : j ∈ Region.ready md ops listed := by
            refine mem_ready.2 ⟨by rw [← hgf listed hl j hj]; exact hc, ops[j], Array.getElem?_eq_getElem hj, fun e he hbi => ?_⟩
            have hb := hf.back j ops[j] e (Array.getElem?_eq_getElem hj) he hbi
            exact ih e.on hb (by omega)
          rw [hr] at this; cases this
    rw [hA.fin hf hN hall]
    exact hQ vs w (fun j hj => hV j hj (hall j hj)) hS
  intro fuel
  induction fuel with
  | zero =>
    intro listed a w vs hl hc hA hV hS
    have hr : Region.ready md ops listed = [] := by
      cases hrr : Region.ready md ops listed with
      | nil => rfl
      | cons x xs =>
        have hx : x ∈ Region.ready md ops listed := by rw [hrr]; simp
        obtain ⟨h1, o, ho, _⟩ := mem_ready.1 hx
        have hlt : x < ops.size := (Array.getElem?_eq_some_iff.1 ho).1
        have : x ∈ (List.range ops.size).filter fun j => !listed.getD j true := List.mem_filter.2 ⟨List.mem_range.2 hlt, by rw [h1]; rfl⟩
        rw [List.eq_nil_of_length_eq_zero (Nat.le_zero.1 hc)] at this
        cases this
    exact ⟨hr, hend listed a w vs hl hA hV hS hr⟩
  | succ fuel ih =>
    intro listed a w vs hl hc hA hV hS
    refine ⟨fun hr => hend listed a w vs hl hA hV hS hr, fun i hi => ?_⟩
    obtain ⟨hun, o, ho, hdep⟩ := mem_ready.1 hi
    have hlt : i < ops.size := (Array.getElem?_eq_some_iff.1 ho).1
    unfold wpOp
    simp only [ho]
    rw [if_pos (by unfold Region.wanted; rw [hf.guard i o ho])]
    refine .inl ?_
    have hdo : dstOf ops i = o.dst := by unfold dstOf; rw [ho]; rfl
    have hwl : ∀ j, waits md ops i j = true → listed.getD j false = true := by
      intro j hw
      unfold waits at hw
      rw [ho] at hw
      simp only [Option.map_some, Option.getD_some, Array.any_eq_true', Bool.and_eq_true, beq_iff_eq] at hw
      obtain ⟨e, he, hb, rfl⟩ := hw
      exact hdep e he hb
    have hlj : ∀ j, listed.getD j false = true → j < ops.size := fun j h => by
      rcases Nat.lt_or_ge j ops.size with h' | h'
      · exact h'
      · rw [Array.getD_eq_getD_getElem?, Array.getElem?_eq_none (by rw [hl]; exact h')] at h; cases h
    have hD := hop i hlt a.eval w (fun _ => rfl) (fun _ => rfl) (fun _ => rfl) (fun t ht => by
        show a.tmps.getD t undef = _
        rw [Array.getD_eq_getD_getElem?, Array.getD_eq_getD_getElem?, hA.2.2.2 t fun j hj hjt => absurd hjt (ht j hj)])
      (fun j t hw hjt => by
        have h1 := hwl j hw
        have h2 := hA.2.2.1 j t (hlj j h1) hjt h1
        show V j (a.tmps.getD t undef) w
        rw [Array.getD_eq_getD_getElem?, h2]
        exact hV j (hlj j h1) h1) (fun j hw _ => ⟨vs j, hV j (hlj j (hwl j hw)) (hwl j hw)⟩) hS o ho
    refine Does.wp hD ?_
    rintro v w' ⟨hv, hs⟩
    rw [← hdo]
    have hfl : (List.range ops.size).filter (fun j => !(listed.setIfInBounds i true).getD j true) = ((List.range ops.size).filter fun j => !listed.getD j true).filter fun j => j != i := by
      rw [List.filter_filter]
      apply List.filter_congr
      intro j hj
      by_cases hji : j = i
      · subst hji
        simp [Array.getD_eq_getD_getElem?, Array.getElem?_setIfInBounds, hl, hlt]
      · simp [Array.getD_eq_getD_getElem?, Array.getElem?_setIfInBounds, Ne.symm hji, hji]
    refine ih (listed.setIfInBounds i true) (a.put (dstOf ops i) v) w' _ (by simp [hl]) ?_ (hA.step hf hN hlt hl hun v) (fun j hj hlj' => ?_) (htr _ _ _ hS hs)
    · rw [hfl]
      have hmem : i ∈ (List.range ops.size).filter fun j => !listed.getD j true := List.mem_filter.2 ⟨List.mem_range.2 hlt, by rw [hun]; rfl⟩
      have hlt2 : (((List.range ops.size).filter fun j => !listed.getD j true).filter fun j => j != i).length < ((List.range ops.size).filter fun j => !listed.getD j true).length := by
        apply List.length_filter_lt_length_iff_exists.2
        exact ⟨i, hmem, by simp⟩
      omega
    · by_cases hji : j = i
      · subst hji; simp only [if_true]; exact hv
      · simp only [if_neg hji]
        refine hst j _ w w' hj (hV j hj ?_) hs
        rw [Array.getD_eq_getD_getElem?, Array.getElem?_setIfInBounds] at hlj'
        rw [Array.getD_eq_getD_getElem?]
        simpa [Ne.symm hji] using hlj'
/-- the law of a region that draws its order -/
theorem region_free {id : Nat} {Q : Exit → Act → World → Prop} {a0 : Act} {w0 : World} (N : Nat) (hm : P.follows .mixedOrders = true) (hf : fit .any ops N = true) (hN : a0.tmps.size = N) (V : Nat → Value → World → Prop) (St : World → World → Prop)
    (hrf : ∀ a, St a a) (hdr : St w0 w0.drew) (htr : ∀ a b c, St a b → St b c → St a c) (hst : ∀ j v w w', j < ops.size → V j v w → St w w' → V j v w') (hop : ∀ i, i < ops.size → Step P .any ops a0 w0 V St i)
    (hQ : ∀ (vs : Nat → Value) w, (∀ j, j < ops.size → V j (vs j) w) → St w0 w → Q .normal ⟨finT ops vs a0.tmps ops.size, a0.defers⟩ w) : (Code.region id ops true).wp P Q a0 w0 := by
  refine wp_region_any hm ?_
  refine any_free (fits_of (md := .any) hf) hN V St htr hst hop hQ ops.size _ a0 _ (fun _ => undef) (by simp) (by have := List.length_filter_le (fun j => !(Array.replicate ops.size false).getD j true) (List.range ops.size); rw [List.length_range] at this; exact this) ⟨rfl, rfl, fun j t hj _ h => ?_, fun t _ => rfl⟩ (fun j hj h => ?_) hdr
  · simp [Array.getD_eq_getD_getElem?, hj] at h
  · simp [Array.getD_eq_getD_getElem?, hj] at h
/-- no operation's value goes to slot t -/
def noDst (ops : Array Oper) (t : Tmp) : Bool := (List.range ops.size).all fun j => dstOf ops j != some t
/-- the same, its side facts as Bools -/
def StepB (P : Program) (ops : Array Oper) (a0 : Act) (w0 : World) (V : Nat → Value → World → Prop) (St : World → World → Prop) (i : Nat) : Prop :=
  ∀ (E : Operand → Value) (w : World), (∀ v, E (.const v) = v) → (∀ f, E (.func f) = .func (.func f) #[] #[]) →
    (∀ t, noDst ops t = true → E (.tmp t) = a0.tmps.getD t undef) → (∀ j t, waits .any ops i j = true → (dstOf ops j == some t) = true → V j (E (.tmp t)) w) → (∀ j, waits .any ops i j = true → dstOf ops j = none → ∃ v, V j v w) → St w0 w →
    ∀ o, ops[i]? = some o → Does P E o w fun v w' => V i v w' ∧ St w w'
theorem StepB.step {a0 : Act} {w0 : World} {V : Nat → Value → World → Prop} {St : World → World → Prop} {i : Nat} (h : StepB P ops a0 w0 V St i) : Step P .any ops a0 w0 V St i :=
  fun E w h1 h2 _ h4 h5 h6 h7 o ho => h E w h1 h2 (fun t ht => h4 t fun j hj hd => by
    unfold noDst at ht
    rw [List.all_eq_true] at ht
    have := ht j (List.mem_range.2 hj)
    rw [hd] at this; simp at this) (fun j t hw hd => h5 j t hw (by simpa using hd)) h6 h7 o ho
def findR (n : Nat) : Code → Option (Array Oper)
  | .region id ops _ => if id = n then some ops else none
  | .seq a b => (match findR n a with | some o => some o | none => findR n b)
  | .cond _ a b => (match findR n a with | some o => some o | none => findR n b)
  | .block _ b => findR n b
  | .loop b => findR n b
  | .scope b => findR n b
  | _ => none
/-- worlds in which nothing that was there is another -/
def Kept (a b : World) : Prop := Below a.heap.size a b
theorem Kept.refl (a : World) : Kept a a := Below.refl _ _
theorem Kept.trans {a b c : World} (h : Kept a b) (k : Kept b c) : Kept a c := Below.trans h (k.mono h.size)
theorem Kept.drew (a : World) : Kept a a.drew := Below.drew (Below.refl _ _)
end
end Fre
end Go.Proofs.Ytinjafacnekkcaa
namespace Go.Proofs.Ytinjafacnekkcaa
open Go Go.RowKit
/-- it ends in the normal way, and so -/
def OnlyG (Q : Act → World → Prop) : Exit → Act → World → Prop
  | .normal, a, w => Q a w
  | _, _, _ => False
theorem onlyG_out (Q : Act → World → Prop) : ¬ LetsOut (OnlyG Q) := fun ⟨_, _, h⟩ => h
theorem upon_roundG {l n : Nat} {P : Program} {o : Oper} {a : Act} {K : Act → World → Prop} {Q : Act → World → Prop} {Q' : Exit → Act → World → Prop} {r : Result Next}
    (h : o.upon P a K (OnlyG Q) r) : o.uponIn (Fence.wide.inRound l) n P a K Q' r := by
  cases r with
  | ok x w' =>
    cases x with
    | value v => exact h
    | skip => exact h
    | defer d => exact h
    | enter f args =>
      refine ⟨fun h => (by cases h), ?_⟩
      refine CallsIn.inRound l (callsIn_wide.2 (Calls.mono h ?_))
      intro e w'' he
      cases e with
      | returned v => exact he
      | panicked c => exact (he : False).elim
      | outgrown => exact (onlyG_out Q he).elim
    | row row args =>
      refine ⟨fun h => (by cases h), ?_⟩
      exact fun c cs _ => let ⟨v, w', r, s⟩ := h c cs; ⟨v, w', r, stepsIn_wide.2 s⟩
    | _ => exact (h : False).elim
  | halt x w' =>
    cases x with
    | panic v => exact (h : False).elim
    | _ => exact (h : False).elim
end Go.Proofs.Ytinjafacnekkcaa
