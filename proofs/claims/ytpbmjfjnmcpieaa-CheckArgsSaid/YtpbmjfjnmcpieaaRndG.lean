/- Regions within a round of a range over a function, at the wide fence: what was shown of them outside a round. (Rnd's laws, and one for regions in the order of the text, and one by Free.) -/
import Derived.RangeFuncNested
import Derived.RangeFuncBound
import Derived.RangeFuncCalls
import Derived.RangeFuncLeaves
import Derived.Shelf.Abstract
import Derived.Shelf.RegionOpen
import Derived.WalkKit
import Derived.OwnWalkIn
import Derived.TacticsInMore
import Derived.LoopNIn
import Derived.LoopIn
import Derived.OrdersIn
import Derived.OrdersHeld
import Derived.Test.YtpbmjfjnmcpieaaFree
set_option linter.unusedVariables false
set_option linter.unusedSimpArgs false
namespace Go.Proofs.Ytpbmjfjnmcpieaa
open Go Go.RowKit
/-- it ends in the normal way, and so -/
def OnlyG (Q : Act → World → Prop) : Exit → Act → World → Prop
  | .normal, a, w => Q a w
  | _, _, _ => False
theorem onlyG_out (Q : Act → World → Prop) : ¬ LetsOut (OnlyG Q) := fun ⟨_, _, h⟩ => h
theorem upon_roundG {l n : Nat} {P : Program} {o : Oper} {a : Act} {K : Act → World → Prop} {Q : Act → World → Prop} {Q' : Exit → Act → World → Prop} {r : Result Next}
    (h : o.upon P a K (OnlyG Q) r) : o.uponIn (Fence.wide.inRound l) n P a K Q' r := by
  cases r with
  | ok x w' =>
    cases x with
    | value v => exact h
    | skip => exact h
    | defer d => exact h
    | enter f args =>
      refine ⟨fun h => (by cases h), ?_⟩
      refine CallsIn.inRound l (callsIn_wide.2 (Calls.mono h ?_))
      intro e w'' he
      cases e with
      | returned v => exact he
      | panicked c => exact (he : False).elim
      | outgrown => exact (onlyG_out Q he).elim
    | row row args =>
      refine ⟨fun h => (by cases h), ?_⟩
      exact fun c cs _ => let ⟨v, w', r, s⟩ := h c cs; ⟨v, w', r, stepsIn_wide.2 s⟩
    | _ => exact (h : False).elim
  | halt x w' =>
    cases x with
    | panic v => exact (h : False).elim
    | _ => exact (h : False).elim
theorem wpOp_roundG {l n : Nat} {P : Program} {ops : Array Oper} {K : Act → World → Prop} {Q : Act → World → Prop} {Q' : Exit → Act → World → Prop} {i : Nat} {a : Act} {w : World}
    (hd : ∀ (j : Nat) (o : Oper) c, ops[j]? = some o → o.op ≠ Op.defer c) (h : wpOp P ops (OnlyG Q) i K a w) : wpOpIn (Fence.wide.inRound l) n P ops Q' i K a w := by
  unfold wpOp at h
  unfold wpOpIn
  cases ho : ops[i]? with
  | none => simp only [ho] at h; exact h
  | some o =>
    simp only [ho] at h
    show if _ then _ else _
    split
    · rename_i hw
      rw [if_pos hw] at h
      rcases h with h | ⟨_, h⟩
      · refine ⟨fun _ _ => trivial, ?_⟩
        show o.uponIn _ _ _ _ _ _ ((Oper.semAt (some l) a.eval o).run P w)
        rw [Oper.semAt_some l a.eval o (fun c => hd i o c ho)]
        exact upon_roundG h
      · exact (onlyG_out Q h).elim
    · rename_i hw
      rw [if_neg hw] at h
      exact ⟨fun _ _ => trivial, h⟩
theorem wpAny_roundG {l n : Nat} {P : Program} {md : Region.Mode} {ops : Array Oper} {Q : Act → World → Prop} {Q' : Exit → Act → World → Prop} (hQ : ∀ a w, Q a w → Q' .normal a w)
    (hd : ∀ (j : Nat) (o : Oper) c, ops[j]? = some o → o.op ≠ Op.defer c) : ∀ (fuel : Nat) (listed : Array Bool) (a : Act) (w : World), wpAny P md ops (OnlyG Q) fuel listed a w → wpAnyIn (Fence.wide.inRound l) n P md ops Q' fuel listed a w
  | 0, _, _, _, h => ⟨h.1, hQ _ _ h.2⟩
  | fuel + 1, _, _, _, h => ⟨fun h0 => hQ _ _ (h.1 h0), fun i hi => wpOpIn_mono (fun a' w' h' => wpAny_roundG hQ hd fuel _ a' w' h') (wpOp_roundG hd (h.2 i hi))⟩
/-- the beginning: with a condition that is held -/
theorem round_regionG {l n : Nat} {P : Program} {ops : Array Oper} {Q : Act → World → Prop} {Q' : Exit → Act → World → Prop} {S : World → Prop} {id : Nat} {a : Act} {w : World} (hm : P.follows .mixedOrders = true)
    (hd : ops.all (fun o => match o.op with | .defer _ => false | _ => true) = true) (hQ : ∀ a w, Q a w → Q' .normal a w) (hS : S w.drew)
    (h : S w.drew → wpAnyH P .any ops (OnlyG Q) S ops.size (Array.replicate ops.size false) a w.drew) : (Code.region id ops true).wpIn (Fence.wide.inRound l) n P Q' a w := by
  refine wpIn_region_any hm (wpAny_roundG hQ ?_ _ _ _ _ (wpAny_of_held _ _ _ _ (h hS)))
  intro j o c ho hc
  rw [Array.all_eq_true] at hd
  obtain ⟨hj, rfl⟩ := Array.getElem?_eq_some_iff.1 ho
  have := hd j hj
  rw [hc] at this
  cases this
theorem list_roundG {l n : Nat} {P : Program} {ops : Array Oper} {Q : Act → World → Prop} {Q' : Exit → Act → World → Prop} (hQ : ∀ a w, Q a w → Q' .normal a w) :
    ∀ (rest : List Oper), (∀ o ∈ rest, ∀ c, o.op ≠ Op.defer c) → ∀ (a : Act) (w : World), wpList P ops (OnlyG Q) rest a w → wpListIn (Fence.wide.inRound l) n P ops Q' rest a w
  | [], _, _, _, h => hQ _ _ h
  | o :: rest, hd, a, w, h => by
    unfold wpList at h
    unfold wpListIn
    by_cases hw : Region.wanted o (yielded ops a.tmps) = true
    · rw [if_pos hw] at h ⊢
      rcases h with h | ⟨_, h⟩
      · refine ⟨fun _ _ => trivial, ?_⟩
        show o.uponIn _ _ _ _ _ _ ((Oper.semAt (some l) a.eval o).run P w)
        rw [Oper.semAt_some l a.eval o (fun c => hd o List.mem_cons_self c)]
        refine upon_roundG (Q := Q) ?_
        exact Oper.wp_mono (fun a' w' h' => list_roundG hQ rest (fun o' ho' => hd o' (List.mem_cons_of_mem _ ho')) a' w' h') h
      · exact (onlyG_out Q h).elim
    · rw [if_neg hw] at h ⊢
      exact ⟨fun _ _ => trivial, list_roundG hQ rest (fun o' ho' => hd o' (List.mem_cons_of_mem _ ho')) _ _ h⟩
theorem noDefer_spec {ops : Array Oper} (hd : ops.all (fun o => match o.op with | .defer _ => false | _ => true) = true) : ∀ o ∈ ops.toList, ∀ c, o.op ≠ Op.defer c := by
  intro o ho c hc
  rw [← Array.all_toList, List.all_eq_true] at hd
  have := hd o ho
  rw [hc] at this
  cases this
/-- a region in the order of the text, within a round -/
theorem round_seqG {l n : Nat} {P : Program} {ops : Array Oper} {Q' : Exit → Act → World → Prop} {id : Nat} {a : Act} {w : World}
    (hd : ops.all (fun o => match o.op with | .defer _ => false | _ => true) = true)
    (h : wpList P ops (OnlyG fun a w => Q' .normal a w) ops.toList a w) : (Code.region id ops false).wpIn (Fence.wide.inRound l) n P Q' a w :=
  wpIn_region_list (list_roundG (fun _ _ h => h) _ (noDefer_spec hd) _ _ h)
/-- a region that draws its order, within a round: by what it is outside -/
theorem round_drawG {l n : Nat} {P : Program} {ops : Array Oper} {Q' : Exit → Act → World → Prop} {id : Nat} {a : Act} {w : World} (hm : P.follows .mixedOrders = true)
    (hd : ops.all (fun o => match o.op with | .defer _ => false | _ => true) = true)
    (h : wpAny P .any ops (OnlyG fun a w => Q' .normal a w) ops.size (Array.replicate ops.size false) a w.drew) : (Code.region id ops true).wpIn (Fence.wide.inRound l) n P Q' a w := by
  refine wpIn_region_any hm (wpAny_roundG (fun _ _ h => h) ?_ _ _ _ _ h)
  intro j o c ho hc
  exact noDefer_spec hd o (by rw [← Array.getElem?_toList] at ho; exact List.mem_of_getElem? ho) c hc
end Go.Proofs.Ytpbmjfjnmcpieaa
