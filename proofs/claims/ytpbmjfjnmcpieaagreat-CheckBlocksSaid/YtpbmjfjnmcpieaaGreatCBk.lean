/- Texts TailT, ChN, ChNa, ChNb, ChNc, ChNd, ChNe, ChNf, ChNg, ChNh, put together by pack.py. -/
import Derived.Test.YtpbmjfjnmcpieaaGreatCBj
import Derived.Test.YtpbmjfjnmcpieaaGreatCBa
import Derived.Test.YtpbmjfjnmcpieaaGreatCBg
set_option maxRecDepth 100000
set_option maxHeartbeats 16000000
set_option linter.unusedVariables false
set_option linter.unusedSimpArgs false
namespace Go.Proofs.YtpbmjfjnmcpieaaGreat
open Go Go.RowKit
namespace Fre
section
variable {P : Program} {ops : Array Oper}
theorem region_tailT {id : Nat} {Q : Exit -> Act -> World -> Prop} {a0 : Act} {w0 : World} (N n0 : Nat) (hm : P.follows .mixedOrders = true) (hf : fit .any ops N = true) (hN : a0.tmps.size = N) (ht : tailFitT .any ops n0 = true) (hn0 : n0 <= ops.size) (V : Nat -> Value -> World -> Prop)
  (hst : ∀ j v w w', j < n0 -> V j v w -> Kept w w' -> V j v w') (hop : ∀ i, i < n0 -> StepB P ops a0 w0 V Kept i)
  (hQ : ∀ (vs : Nat -> Value) w, (∀ j, j < n0 -> V j (vs j) w) -> Kept w0 w -> wpList P ops Q (ops.toList.drop n0) ⟨finT ops vs a0.tmps n0, a0.defers⟩ w) : (Code.region id ops true).wp P Q a0 w0 := by
 refine wp_region_any hm ?_
 have hfs := fits_of (md := .any) hf
 have hw := tailFitT_spec ht
 have hgf : ∀ (listed : Array Bool), listed.size = ops.size -> ∀ j, j < ops.size -> listed.getD j false = listed.getD j true := fun listed hl j hj => by
  simp [Array.getD_eq_getD_getElem?, hl, hj]
 have main : ∀ (fuel : Nat) (listed : Array Bool) (a : Act) (w : World) (vs : Nat -> Value), listed.size = ops.size -> ((List.range ops.size).filter fun j => !listed.getD j true).length <= fuel ->
   (∀ j, j < ops.size -> n0 <= j -> listed.getD j true = false) -> Agree ops a0 a listed vs -> (∀ j, j < n0 -> listed.getD j false = true -> V j (vs j) w) -> Kept w0 w -> (∀ b, listed.getD b false = true -> ∀ j, waits .any ops b j = true -> listed.getD j false = true) -> wpAny P .any ops Q fuel listed a w := by
  have hend : ∀ (fuel : Nat) (listed : Array Bool) (a : Act) (w : World) (vs : Nat -> Value), listed.size = ops.size -> ((List.range ops.size).filter fun j => !listed.getD j true).length <= fuel -> (∀ j, j < ops.size -> n0 <= j -> listed.getD j true = false) -> Agree ops a0 a listed vs -> (∀ j, j < n0 -> listed.getD j false = true -> V j (vs j) w) -> Kept w0 w -> (∀ j, j < n0 -> listed.getD j true = true) -> wpAny P .any ops Q fuel listed a w := by
   intro fuel listed a w vs hl hc htl hA hV hS hall
   have hcnt : ops.size - n0 <= fuel := by
    refine Nat.le_trans ?_ hc
    have : ((List.range ops.size).filter fun j => !listed.getD j true).length = ((List.range ops.size).filter fun j => decide (n0 <= j)).length := by
     congr 1
     apply List.filter_congr
     intro j hj
     have hj' := List.mem_range.1 hj
     rcases Nat.lt_or_ge j n0 with h | h
     ·rw [hall j h]; simp; omega
     ·rw [htl j hj' h]; simp; omega
    rw [this]
    have h2 : (List.range ops.size).filter (fun j => decide (n0 <= j)) = List.range' n0 (ops.size - n0) := by
     have : List.range ops.size = List.range n0 ++ List.range' n0 (ops.size - n0) := by
      rw [List.range_eq_range', List.range_eq_range', show ops.size = n0 + (ops.size - n0) by omega, <- List.range'_append_1]; simp
     rw [this, List.filter_append]
     rw [List.filter_eq_nil_iff.2 (fun x hx => by have := List.mem_range.1 hx; simp; omega), List.nil_append]
     exact List.filter_eq_self.2 (fun x hx => by have := (List.mem_range'_1.1 hx).1; simpa using this)
    rw [h2, List.length_range']; exact Nat.le_refl _
   refine any_tail1T hfs ht fuel n0 listed a w hl (Nat.le_succ _) hcnt (fun j hj => ?_) ?_
   ·rcases Nat.lt_or_ge j n0 with h | h
    ·rw [hall j h]; simp [h]
    ·rw [htl j hj h]; simp; omega
   ·have ha : a = ⟨finT ops vs a0.tmps n0, a0.defers⟩ := by
     obtain ⟨h1, h2, h3, h4⟩ := hA
     obtain ⟨T, D⟩ := a
     simp only at h1 h2 h3 h4
     subst h1
     congr 1
     apply Array.ext_getElem?
     intro t
     obtain ⟨k1, k2⟩ := finT_get hfs vs a0.tmps hN n0 hn0 t
     by_cases hx : ∃ j, j < n0 /\ dstOf ops j = some t
     ·obtain ⟨j, hj, hd⟩ := hx
      rw [k1 j hj hd, h3 j t (by omega) hd (by rw [hgf listed hl j (by omega)]; exact hall j hj)]
     ·rw [k2 (fun j hj hd => hx ⟨j, hj, hd⟩)]
      refine h4 t fun j hj hd => ?_
      rcases Nat.lt_or_ge j n0 with h | h
      ·exact absurd ⟨j, h, hd⟩ hx
      ·rw [hgf listed hl j hj]; exact htl j hj h
    rw [ha]
    exact hQ vs w (fun j hj => hV j hj (by rw [hgf listed hl j (by omega)]; exact hall j hj)) hS
  intro fuel
  induction fuel with
  | zero =>
   intro listed a w vs hl hc htl hA hV hS hcl
   refine hend 0 listed a w vs hl hc htl hA hV hS fun j hj => ?_
   cases hc2 : listed.getD j true with
   | true => rfl
   | false =>
    have : j ∈ (List.range ops.size).filter fun j => !listed.getD j true := List.mem_filter.2 ⟨List.mem_range.2 (by omega), by rw [hc2]; rfl⟩
    rw [List.eq_nil_of_length_eq_zero (Nat.le_zero.1 hc)] at this
    cases this
  | succ fuel ih =>
   intro listed a w vs hl hc htl hA hV hS hcl
   by_cases hall : ∀ j, j < n0 -> listed.getD j true = true
   ·exact hend (fuel + 1) listed a w vs hl hc htl hA hV hS hall
   ·have hunl : ∃ j, j < n0 /\ listed.getD j true = false := by
     apply Classical.byContradiction
     intro h
     exact hall fun j hj => by
      cases hc2 : listed.getD j true with
      | true => rfl
      | false => exact absurd ⟨j, hj, hc2⟩ h
    have hni : ∀ i, i ∈ Region.ready .any ops listed -> i < n0 := by
     intro i hi
     obtain ⟨hun, o, ho, hdep⟩ := mem_ready.1 hi
     have hlt : i < ops.size := (Array.getElem?_eq_some_iff.1 ho).1
     rcases Nat.lt_or_ge i n0 with h | h
     ·exact h
     ·exfalso
      obtain ⟨j, hj, hjf⟩ := hunl
      have hwd : ∀ j, waits .any ops i j = true -> listed.getD j false = true := by
       intro j hwi
       unfold waits at hwi
       rw [ho] at hwi
       simp only [Option.map_some, Option.getD_some, Array.any_eq_true', Bool.and_eq_true, beq_iff_eq] at hwi
       obtain ⟨e, he, hb, hek⟩ := hwi
       have h1 := hdep e he hb
       rw [hek] at h1
       exact h1
      have h1 := waitsT_closed (S := fun j => listed.getD j false = true) hcl 4 i j hwd (hw i j hlt h (by omega))
      rw [hgf listed hl j (by omega)] at h1
      rw [h1] at hjf; cases hjf
    refine ⟨fun hr => ?_, fun i hi => ?_⟩
    ·exfalso
     -- the least operation that has not come up is ready
     have hex : ∀ j, j < n0 -> listed.getD j true = true := by
      intro j
      induction j using Nat.strongRecOn with
      | ind j ihj =>
       intro hj
       cases hc2 : listed.getD j true with
       | true => rfl
       | false =>
        have : j ∈ Region.ready .any ops listed := by
         refine mem_ready.2 ⟨hc2, ops[j], Array.getElem?_eq_getElem (by omega), fun e he hbi => ?_⟩
         have hb := hfs.back j ops[j] e (Array.getElem?_eq_getElem (by omega)) he hbi
         rw [hgf listed hl e.on (by omega)]
         exact ihj e.on hb (by omega)
        rw [hr] at this; cases this
     exact hall hex
    ·have hin := hni i hi
     obtain ⟨hun, o, ho, hdep⟩ := mem_ready.1 hi
     have hlt : i < ops.size := (Array.getElem?_eq_some_iff.1 ho).1
     unfold wpOp
     simp only [ho]
     rw [if_pos (by unfold Region.wanted; rw [hfs.guard i o ho])]
     refine .inl ?_
     have hdo : dstOf ops i = o.dst := by unfold dstOf; rw [ho]; rfl
     have hwl : ∀ j, waits .any ops i j = true -> listed.getD j false = true /\ j < n0 := by
      intro j hwj
      unfold waits at hwj
      rw [ho] at hwj
      simp only [Option.map_some, Option.getD_some, Array.any_eq_true', Bool.and_eq_true, beq_iff_eq] at hwj
      obtain ⟨e, he, hb, rfl⟩ := hwj
      exact ⟨hdep e he hb, by have := hfs.back i o e ho he hb; omega⟩
     have hD := (hop i hin).step a.eval w (fun _ => rfl) (fun _ => rfl) (fun _ => rfl) (fun t ht' => by
       show a.tmps.getD t undef = _
       rw [Array.getD_eq_getD_getElem?, Array.getD_eq_getD_getElem?, hA.2.2.2 t fun j hj hjt => absurd hjt (ht' j hj)])
      (fun j t hwj hjt => by
       obtain ⟨h1, h1n⟩ := hwl j hwj
       have h2 := hA.2.2.1 j t (by omega) hjt h1
       show V j (a.tmps.getD t undef) w
       rw [Array.getD_eq_getD_getElem?, h2]
       exact hV j h1n h1) (fun j hwj _ => ⟨vs j, hV j (hwl j hwj).2 (hwl j hwj).1⟩) hS o ho
     refine Does.wp hD ?_
     rintro v w' ⟨hv, hs⟩
     rw [<- hdo]
     have hfl : (List.range ops.size).filter (fun j => !(listed.setIfInBounds i true).getD j true) = ((List.range ops.size).filter fun j => !listed.getD j true).filter fun j => j != i := by
      rw [List.filter_filter]
      apply List.filter_congr
      intro j hj
      by_cases hji : j = i
      ·subst hji
       simp [Array.getD_eq_getD_getElem?, Array.getElem?_setIfInBounds, hl, hlt]
      ·simp [Array.getD_eq_getD_getElem?, Array.getElem?_setIfInBounds, Ne.symm hji, hji]
     refine ih (listed.setIfInBounds i true) (a.put (dstOf ops i) v) w' _ (by simp [hl]) ?_ (fun j hj hjn => ?_) (hA.step hfs hN hlt hl hun v) (fun j hj hlj' => ?_) (hS.trans hs) (fun b hb j hj => ?_)
     ·rw [hfl]
      have hmem : i ∈ (List.range ops.size).filter fun j => !listed.getD j true := List.mem_filter.2 ⟨List.mem_range.2 hlt, by rw [hun]; rfl⟩
      have hlt2 : (((List.range ops.size).filter fun j => !listed.getD j true).filter fun j => j != i).length < ((List.range ops.size).filter fun j => !listed.getD j true).length := by
       apply List.length_filter_lt_length_iff_exists.2
       exact ⟨i, hmem, by simp⟩
      omega
     ·have hji : j ≠ i := by omega
      rw [Array.getD_eq_getD_getElem?, Array.getElem?_setIfInBounds, if_neg (Ne.symm hji), <- Array.getD_eq_getD_getElem?]
      exact htl j hj hjn
     ·by_cases hji : j = i
      ·subst hji; simp only [if_true]; exact hv
      ·simp only [if_neg hji]
       refine hst j _ w w' hj (hV j hj ?_) hs
       rw [Array.getD_eq_getD_getElem?, Array.getElem?_setIfInBounds] at hlj'
       rw [Array.getD_eq_getD_getElem?]
       simpa [Ne.symm hji] using hlj'
     ·have hkeep : ∀ q, listed.getD q false = true -> (listed.setIfInBounds i true).getD q false = true := by
       intro q hq
       by_cases hqi : q = i
       ·subst hqi; simp [Array.getD_eq_getD_getElem?, Array.getElem?_setIfInBounds, hl, hlt]
       ·rw [Array.getD_eq_getD_getElem?, Array.getElem?_setIfInBounds, if_neg (Ne.symm hqi), <- Array.getD_eq_getD_getElem?]; exact hq
      by_cases hbi : b = i
      ·subst hbi; exact hkeep j (hwl j hj).1
      ·rw [Array.getD_eq_getD_getElem?, Array.getElem?_setIfInBounds, if_neg (Ne.symm hbi), <- Array.getD_eq_getD_getElem?] at hb
       exact hkeep j (hcl b hb j hj)
 refine main ops.size _ a0 _ (fun _ => undef) (by simp) (by have := List.length_filter_le (fun j => !(Array.replicate ops.size false).getD j true) (List.range ops.size); rw [List.length_range] at this; exact this) (fun j hj _ => ?_) ⟨rfl, rfl, fun j t hj _ h => ?_, fun t _ => rfl⟩ (fun j hj h => ?_) (Kept.drew _) (fun b hb => ?_)
 ·simp [Array.getD_eq_getD_getElem?, hj]
 ·simp [Array.getD_eq_getD_getElem?, hj] at h
 ·simp [Array.getD_eq_getD_getElem?, (show j < ops.size by omega)] at h
 ·exfalso
  rw [Array.getD_eq_getD_getElem?] at hb
  rcases Nat.lt_or_ge b ops.size with h | h
  ·rw [Array.getElem?_replicate, if_pos h] at hb; cases hb
  ·rw [Array.getElem?_replicate, if_neg (by omega)] at hb; cases hb
end
end Fre
end Go.Proofs.YtpbmjfjnmcpieaaGreat
namespace Go.Proofs.YtpbmjfjnmcpieaaGreat
open Go Go.RowKit
def pgK (P : List Pg) (k : Nat) : Pg := P.getD k ⟨0, 0, 0, 0, 0⟩
theorem pgK_get {P : List Pg} {k : Nat} (h : k < P.length) : P[k]? = some (pgK P k) := by
 unfold pgK; rw [List.getD_eq_getElem?_getD, List.getElem?_eq_getElem h]; rfl
theorem pgK_one {P : List Pg} (h : P.all oneP = true) (k : Nat) (hk : k < P.length) : oneP (pgK P k) = true := by
 rw [List.all_eq_true] at h
 exact h _ (List.mem_of_getElem? (pgK_get hk))
theorem pgK_drop {P : List Pg} {k : Nat} (h : k < P.length) : P.drop k = pgK P k :: P.drop (k + 1) := by
 have := pgK_get h
 rw [List.getElem?_eq_getElem h] at this
 rw [List.drop_eq_getElem_cons h, Option.some.inj this]
/-- tails that must come, ahead of page k -/
def wK (P : List Pg) : Nat -> Nat
 | 0 => 0
 | k + 1 => if 0 < wK P k then wK P k - 1 else if (pgK P k).kind = 2 then (pgK P k).run - 1 else 0
/-- bytes of a great object that are still to come (the reference's), ahead of page k -/
def leftK (P : List Pg) : Nat -> Nat
 | 0 => 0
 | k + 1 => if (pgK P k).kind = 1 then leftK P k else (if (pgK P k).kind = 2 then (pgK P k).size else leftK P k) - min (if (pgK P k).kind = 2 then (pgK P k).size else leftK P k) 256
theorem go_at {P : List Pg} (h : goP 0 P = true) : ∀ k, k <= P.length -> goP (wK P k) (P.drop k) = true
 | 0, _ => h
 | k + 1, hk => by
  have ih := go_at h k (by omega)
  rw [pgK_drop (by omega), goP] at ih
  unfold wK
  split at ih
  ·cases ih
  ·split at ih
   ·rename_i h1; rw [if_pos h1]; exact ih
   ·rename_i h1
    rw [if_neg h1]
    split at ih
    ·rename_i h2; rw [if_pos h2]; exact ih
    ·rename_i h2; rw [if_neg h2]; exact ih
theorem tail_at {P : List Pg} (h : goP 0 P = true) (k : Nat) (hk : k < P.length) : tailP (pgK P k) = decide (0 < wK P k) := by
 have ih := go_at h k (by omega)
 rw [pgK_drop hk, goP] at ih
 split at ih
 ·cases ih
 ·rename_i h1
  simp only [bne_iff_ne, ne_eq, Decidable.not_not] at h1
  exact h1.symm
theorem head_size {p : Pg} (h : oneP p = true) (h2 : p.kind = 2) : p.run = (p.size + 255) / 256 /\ 120 < p.size /\ p.size <= 4096 := by
 rcases oneP_kind h with ⟨k', _⟩ | ⟨k', _⟩ | ⟨_, h3⟩ | ⟨k', _⟩
 ·omega
 ·omega
 ·unfold headP pagesOf at h3
  simp only [Bool.and_eq_true, beq_iff_eq, decide_eq_true_eq] at h3
  exact ⟨h3.1.1.2, h3.1.1.1.1.2, h3.1.1.1.2⟩
 ·omega
theorem inv_at {P : List Pg} (ha : P.all oneP = true) (hg : goP 0 P = true) : ∀ k, k <= P.length -> (wK P k = 0 /\ leftK P k = 0) \/
  (∃ h, h < k /\ (pgK P h).kind = 2 /\ (∀ j, h < j -> j < k -> (pgK P j).kind = 3) /\ wK P k + (k - h) = (pgK P h).run /\ 0 < wK P k /\ leftK P k + (k - h) * 256 = (pgK P h).size)
 | 0, _ => .inl ⟨rfl, rfl⟩
 | k + 1, hk => by
  have ih := inv_at ha hg k (by omega)
  have ho := pgK_one ha k (by omega)
  have ht := tail_at hg k (by omega)
  rw [tailP_iff ho] at ht
  rcases ih with ⟨hw, hl⟩ | ⟨h, hlt, h2, h3, hr, hw, hl⟩
  ·have hn3 : (pgK P k).kind ≠ 3 := by
    rw [hw] at ht; simpa using ht
   by_cases k2 : (pgK P k).kind = 2
   ·obtain ⟨e1, e2, e3⟩ := head_size ho k2
    have ew : wK P (k + 1) = (pgK P k).run - 1 := by show (if 0 < wK P k then _ else _) = _; rw [hw, if_neg (by omega), if_pos k2]
    have el : leftK P (k + 1) = (pgK P k).size - min (pgK P k).size 256 := by
     show (if (pgK P k).kind = 1 then _ else _) = _
     rw [if_neg (by omega), if_pos k2]
    by_cases h1 : (pgK P k).run = 1
    ·left; rw [ew, el]; exact ⟨by omega, by omega⟩
    ·right
     refine ⟨k, by omega, k2, fun j h1 h2 => by omega, by rw [ew]; omega, by rw [ew]; omega, by rw [el]; omega⟩
   ·left
    constructor
    ·show (if 0 < wK P k then _ else _) = _; rw [hw, if_neg (by omega), if_neg k2]
    ·show (if (pgK P k).kind = 1 then _ else _) = _
     by_cases k1 : (pgK P k).kind = 1
     ·rw [if_pos k1]; exact hl
     ·rw [if_neg k1, if_neg k2, hl]; rfl
  ·have k3 : (pgK P k).kind = 3 := by
    rw [decide_eq_true hw] at ht; simpa using ht
   obtain ⟨e1, e2, e3⟩ := head_size (pgK_one ha h (by omega)) h2
   have ew : wK P (k + 1) = wK P k - 1 := by show (if 0 < wK P k then _ else _) = _; rw [if_pos hw]
   have el : leftK P (k + 1) = leftK P k - min (leftK P k) 256 := by
    show (if (pgK P k).kind = 1 then _ else _) = _
    rw [if_neg (by omega), if_neg (by omega)]
   by_cases h1 : wK P k = 1
   ·left; rw [ew, el]; exact ⟨by omega, by omega⟩
   ·right
    refine ⟨h, by omega, h2, fun j hj hjk => ?_, by rw [ew]; omega, by rw [ew]; omega, by rw [el]; omega⟩
    rcases Nat.lt_or_ge j k with hh | hh
    ·exact h3 j hj hh
    ·have : j = k := by omega
     rw [this]; exact k3
/-- where the bytes of page k end that mean something (the reference's) -/
def endL (P : List Pg) (k : Nat) : Nat := min (if (pgK P k).kind = 2 then (pgK P k).size else leftK P k) 256
/-- the head of page k's run -/
def headIx (P : List Pg) : Nat -> Nat
 | 0 => 0
 | k + 1 => if (pgK P (k + 1)).kind = 3 then headIx P k else k + 1
theorem headIx_of {P : List Pg} {h : Nat} (h2 : (pgK P h).kind ≠ 3) : ∀ k, h <= k -> (∀ j, h < j -> j <= k -> (pgK P j).kind = 3) -> headIx P k = h
 | 0, hk, _ => by show 0 = h; omega
 | k + 1, hk, h3 => by
  unfold headIx
  rcases Nat.lt_or_ge k h with hh | hh
  ·have : h = k + 1 := by omega
   subst this
   rw [if_neg h2]
  ·rw [if_pos (h3 (k + 1) (by omega) (Nat.le_refl _))]
   exact headIx_of h2 k hh fun j h1 h4 => h3 j h1 (by omega)
/-- the program's end of a page is the reference's -/
theorem end_eq {P : List Pg} (ha : P.all oneP = true) (hg : goP 0 P = true) (k : Nat) (hk : k < P.length) (h1 : (pgK P k).kind ≠ 1) :
  ((pgK P k).kind = 0 /\ endL P k = 0) \/ ((pgK P k).kind ≠ 0 /\ (pgK P (headIx P k)).kind = 2 /\ (k - headIx P k) * 256 < (pgK P (headIx P k)).size /\ (pgK P (headIx P k)).size <= 4096 /\ endL P k = min ((pgK P (headIx P k)).size - (k - headIx P k) * 256) 256) := by
 have ho := pgK_one ha k hk
 have ht := tail_at hg k hk
 rw [tailP_iff ho] at ht
 rcases inv_at ha hg k (by omega) with ⟨hw, hl⟩ | ⟨h, hlt, h2, h3, hr, hw, hl⟩
 ·have hn3 : (pgK P k).kind ≠ 3 := by rw [hw] at ht; simpa using ht
  rcases oneP_kind ho with ⟨k', _⟩ | ⟨k', _⟩ | ⟨k', _⟩ | ⟨k', _⟩
  ·left
   refine ⟨k', ?_⟩
   unfold endL; rw [if_neg (by omega), hl]; rfl
  ·exact absurd k' h1
  ·right
   have e : headIx P k = k := headIx_of hn3 k (Nat.le_refl _) fun j h4 h5 => by omega
   obtain ⟨e1, e2, e3⟩ := head_size ho k'
   rw [e]
   refine ⟨by omega, k', by omega, e3, ?_⟩
   unfold endL; rw [if_pos k', Nat.sub_self, Nat.zero_mul, Nat.sub_zero]
  ·exact absurd k' hn3
 ·have k3 : (pgK P k).kind = 3 := by rw [decide_eq_true hw] at ht; simpa using ht
  right
  have e : headIx P k = h := headIx_of (by omega) k (by omega) fun j h4 h5 => by
   rcases Nat.lt_or_ge j k with hh | hh
   ·exact h3 j h4 hh
   ·have : j = k := by omega
    rw [this]; exact k3
  obtain ⟨e1, e2, e3⟩ := head_size (pgK_one ha h (by omega)) h2
  rw [e]
  refine ⟨by omega, h2, by omega, e3, ?_⟩
  unfold endL; rw [if_neg (by omega)]; congr 1; omega
end Go.Proofs.YtpbmjfjnmcpieaaGreat
namespace Go.Proofs.YtpbmjfjnmcpieaaGreat
open Go Go.RowKit
def endV (P : List Pg) (k : Nat) : Int := if (pgK P k).kind = 1 then -1 else (endL P k : Int)
theorem pgA_k (p : Pg) : (pgA p)[0]? = some (Value.int .i64 (p.kind : Int)) := rfl
theorem lend2_c (lk x : Nat) (R : List Nat) (h16 : R.length = 16) (va : Option Addr) (n pc : Nat) (qv fv av : Value) (P : List Pg) (hn : P.length = n) (hnm : n <= 64) (ha : P.all oneP = true) (hg : goP 0 P = true) (k : Nat) (hk : k < n) (w : World) (h : LkAt w lk x R (.slice va n pc) qv fv av) (hP : PgsAt w va P) :
  Calls Tryz.prog 43 #[.pointer (some ⟨lk, 0, none⟩), .int .i64 (k : Int)] w fun e w' => e = .returned (.int .i64 (endV P k)) /\ Below w.heap.size w w' := by
 have hq := fun h1 => end_eq ha hg k (by omega) h1
 have a1 := (cells_at h 17).trans (lkA_17 h16 _ _ _ _)
 obtain ⟨p, hp⟩ : ∃ p, p = pgK P k := ⟨_, rfl⟩
 have hget : P[k]? = some p := by rw [hp]; exact pgK_get (by omega)
 obtain ⟨g, o, rfl, hgl, hcell⟩ := hP k p hget
 have HC : Hid (w.rangeAt g (o + k * 5) (pgA p).toList) := hcell
 have dl : (k : Int) < (n : Int) := by omega
 have d0 : ¬ (k : Int) < 0 := by omega
 have HZ : Hid ((w.alloc (.cells #[.int .i64 0, .int .i64 0, .int .i64 0, .int .i64 0, .int .u64 0] 100)).heap[w.heap.size]? = some (.cells (pgA ⟨0, 0, 0, 0, 0⟩) 100 (0, 0))) := heap_new' _ _
 have HE1 : Hid (Below w.heap.size w (w.alloc (.cells #[.int .i64 0, .int .i64 0, .int .i64 0, .int .i64 0, .int .u64 0] 100))) := below_box w _
 have HLK := Lib.hid h
 have HLL : Hid (lk < w.heap.size) := lt_of_block h
 have H16 := Lib.hid h16
 have HP := Lib.hid hP
 have HN := Lib.hid hn
 have HNM := Lib.hid hnm
 have HQ : Hid ((p.kind = 1 /\ endV P k = -1) \/ (p.kind = 0 /\ endV P k = 0) \/ (p.kind ≠ 0 /\ p.kind ≠ 1 /\ (pgK P (headIx P k)).kind = 2 /\ (k - headIx P k) * 256 < (pgK P (headIx P k)).size /\ (pgK P (headIx P k)).size <= 4096 /\ endV P k = ((min ((pgK P (headIx P k)).size - (k - headIx P k) * 256) 256 : Nat) : Int))) := by
  by_cases h1 : p.kind = 1
  ·left; exact ⟨h1, by unfold endV; rw [<- hp, if_pos h1]⟩
  ·right
   rcases hq (by rw [<- hp]; exact h1) with ⟨e0, e1⟩ | ⟨e0, e1, e2, e3, e4⟩
   ·left; exact ⟨by rw [hp]; exact e0, by unfold endV; rw [<- hp, if_neg h1, e1]; rfl⟩
   ·right; exact ⟨by rw [hp]; exact e0, h1, e1, e2, e3, by unfold endV; rw [<- hp, if_neg h1, e4]⟩
 obtain ⟨E, hE⟩ : ∃ E, E = endV P k := ⟨_, rfl⟩
 rw [<- hE] at HQ ⊢
 have HKN := Lib.hid hk
 have HPK := Lib.hid hp
 obtain ⟨kd, hkd⟩ : ∃ kd, kd = p.kind := ⟨_, rfl⟩
 have HKD := Lib.hid hkd
 rw [<- hkd] at HQ
 clear hE h h16 hn hnm ha hg hk hP hp hget hgl hcell hq hkd
 have hkc : kd = 1 \/ kd = 0 \/ (kd ≠ 0 /\ kd ≠ 1) := by omega
 go_enter Tryz.func43, Tryz.ntmps43
 rcases hkc with hk1 | hk0 | hk2
 ·have hEE : E = -1 := by rcases HQ.out with h | h | h <;> first | exact h.2 | omega
  subst hEE
  have c1 : (pgA p)[0]? = some (Value.int .i64 1) := by rw [pgA_k, <- HKD.out, hk1]; rfl
  have HC1 := Lib.hid c1
  clear c1 hk1 HQ
  go_wp2_with (first
   | (refine wpList_load_mid rfl 100 (.tmp 13) rfl g (o + k * 5) rfl _ _ HC.out Tryz.underlying100 rfl (by rw [page5]; rfl) ?_)
   | (refine wpList_store_row rfl 100 (.tmp 5) (.tmp 14) rfl w.heap.size (pgA p) rfl rfl 100 _ HZ.out (by rw [page5]; rfl) rfl (pgA_one _) ?_; generalize hW1 : World.setRow _ _ _ = w1; have HZ1 : Hid (w1.heap[w.heap.size]? = some (.cells (pgA p) 100 (0, 0))) := (by show _ = _; rw [<- hW1]; exact setRow_heap _ _ _ _ _ _ HZ.out); have HE2 : Hid (Below w.heap.size w w1) := (by rw [<- hW1]; exact below_setRow HE1.out (Nat.le_refl _) _); have c0 := (cells_at HZ1.out 0).trans HC1.out; clear hW1)
   | fail)
  go_ret
  exact ⟨rfl, HE2.out⟩
 ·have hEE : E = 0 := by rcases HQ.out with h | h | h <;> first | exact h.2 | omega
  subst hEE
  have c1 : (pgA p)[0]? = some (Value.int .i64 0) := by rw [pgA_k, <- HKD.out, hk0]; rfl
  have HC1 := Lib.hid c1
  clear c1 hk0 HQ
  go_wp2_with (first
   | (refine wpList_load_mid rfl 100 (.tmp 13) rfl g (o + k * 5) rfl _ _ HC.out Tryz.underlying100 rfl (by rw [page5]; rfl) ?_)
   | (refine wpList_store_row rfl 100 (.tmp 5) (.tmp 14) rfl w.heap.size (pgA p) rfl rfl 100 _ HZ.out (by rw [page5]; rfl) rfl (pgA_one _) ?_; generalize hW1 : World.setRow _ _ _ = w1; have HZ1 : Hid (w1.heap[w.heap.size]? = some (.cells (pgA p) 100 (0, 0))) := (by show _ = _; rw [<- hW1]; exact setRow_heap _ _ _ _ _ _ HZ.out); have HE2 : Hid (Below w.heap.size w w1) := (by rw [<- hW1]; exact below_setRow HE1.out (Nat.le_refl _) _); have c0 := (cells_at HZ1.out 0).trans HC1.out; clear hW1)
   | fail)
  go_ret
  exact ⟨rfl, HE2.out⟩
 ·have hQ2 := ((HQ.out.resolve_left (fun h => hk2.2 h.1)).resolve_left (fun h => hk2.1 h.1)).2.2
  have HQ2 := Lib.hid hQ2
  have hk0 : ((kd : Int) == 0) = false := by simp; omega
  have hk1 : ((kd : Int) == 1) = false := by simp; omega
  have hi0 : ¬ (kd : Int) = 0 := by omega
  have hi1 : ¬ (kd : Int) = 1 := by omega
  have c1 : (pgA p)[0]? = some (Value.int .i64 (kd : Int)) := by rw [pgA_k, <- HKD.out]
  have HC1 := Lib.hid c1
  clear c1 hQ2 HQ hk2
  go_wp2_with (first
   | (refine wpList_load_mid rfl 100 (.tmp 13) rfl g (o + k * 5) rfl _ _ HC.out Tryz.underlying100 rfl (by rw [page5]; rfl) ?_)
   | (refine wpList_store_row rfl 100 (.tmp 5) (.tmp 14) rfl w.heap.size (pgA p) rfl rfl 100 _ HZ.out (by rw [page5]; rfl) rfl (pgA_one _) ?_; generalize hW1 : World.setRow _ _ _ = w1; have HZ1 : Hid (w1.heap[w.heap.size]? = some (.cells (pgA p) 100 (0, 0))) := (by show _ = _; rw [<- hW1]; exact setRow_heap _ _ _ _ _ _ HZ.out); have HE2 : Hid (Below w.heap.size w w1) := (by rw [<- hW1]; exact below_setRow HE1.out (Nat.le_refl _) _); have c0 := (cells_at HZ1.out 0).trans HC1.out; clear hW1)
   | fail)
  clear a1 HZ HE1 HC HC1 hk0 hk1 hi0 hi1
  go_loopw [6] (fun vi wr => ∃ a : Nat, a <= k /\ vi = .int .i64 (a : Int) /\ Hid (headIx P a = headIx P k) /\ Hid (Below w.heap.size w wr)) (fun vi _ => (intOf vi).toNat)
  case atStart => exact ⟨k, Nat.le_refl _, rfl, rfl, HE2.out⟩
  case round =>
   obtain ⟨a, hak, rfl, hix, hbel⟩ := hrel
   have b1 := (cells_at ((hbel.out.block _ HLL.out).trans HLK.out) 17).trans (lkA_17 H16.out _ _ _ _)
   obtain ⟨q, hq⟩ : ∃ q, q = pgK P a := ⟨_, rfl⟩
   have hget : P[a]? = some q := by rw [hq]; exact pgK_get (by have := HN.out; have := HKN.out; omega)
   obtain ⟨g', o', e1, hgl, hcell⟩ := HP.out a q hget
   cases e1
   have k0 : wr.cell? ⟨g, o + a * 5, none⟩ = some (.int .i64 (q.kind : Int)) := (hbel.out.cell (p := ⟨g, o + a * 5, none⟩) hgl).trans (hcell 0 _ (pgA_k q))
   have k3 : wr.cell? ⟨g, o + a * 5 + 3, none⟩ = some (.int .i64 (q.size : Int)) := (hbel.out.cell (p := ⟨g, o + a * 5 + 3, none⟩) hgl).trans (hcell 3 _ rfl)
   have dl2 : (a : Int) < (n : Int) := by have := HKN.out; omega
   have dl3 : ¬ (a : Int) < 0 := by omega
   by_cases h3 : q.kind = 3
   ·have ha0 : a ≠ 0 := by
     rintro rfl
     have e0 : headIx P 0 = 0 := rfl
     have h2 := HQ2.out.1
     rw [<- hix.out, e0, <- hq] at h2
     omega
    have hst : headIx P (a - 1) = headIx P k := by
     obtain ⟨b, rfl⟩ : ∃ b, a = b + 1 := ⟨a - 1, by omega⟩
     rw [<- hix.out, Nat.add_sub_cancel]
     show _ = if _ then _ else _
     rw [if_pos (by rw [<- hq]; exact h3)]
    have HST := Lib.hid hst
    have HAK : Hid (a - 1 <= k /\ a - 1 < a) := ⟨by omega, by omega⟩
    have es : IntKind.i64.wrap ((a : Int) - 1) = ((a - 1 : Nat) : Int) := by
     rw [show (a : Int) - 1 = ((a - 1 : Nat) : Int) by omega]; exact IntWalk.i64_in _ (by have := HKN.out; have := HNM.out; omega)
    rw [h3] at k0
    obtain ⟨b, hb⟩ : ∃ b, b = a - 1 := ⟨_, rfl⟩
    rw [<- hb] at es HST HAK
    clear hget hq hgl hcell h3 ha0 hst hix k3 hb hak
    go_wp2
    go_roundw
    case rel => exact ⟨b, HAK.out.1, by go_num, HST.out, hbel.out⟩
    case measure => simp [intOf]; have := HAK.out; omega
   ·have hha : headIx P k = a := by
     rw [<- hix.out]
     exact headIx_of (by rw [<- hq]; exact h3) a (Nat.le_refl _) fun j h1 h2 => by omega
    have hQ3 := HQ2.out
    rw [hha, <- hq] at hQ3
    have HQ3 := Lib.hid hQ3
    have hn3 : ((q.kind : Int) == 3) = false := by simp; omega
    have hm3 : ¬ (q.kind : Int) = 3 := by omega
    obtain ⟨sz, hsz⟩ : ∃ sz, sz = q.size := ⟨_, rfl⟩
    rw [<- hsz] at HQ3 k3
    have r1 : (k : Int) - (a : Int) = ((k - a : Nat) : Int) := by omega
    have r2 : k < 64 := by have := HKN.out; have := HNM.out; omega
    have r3 := HQ3.out.2.2.1
    have r4 := HQ3.out.2.1
    have RA := Lib.hid hak
    clear hget hq hgl hcell h3 hha hQ3 hix hsz HQ2
    go_wp2
    go_ret
    have e9 : E = min ((sz : Int) - ((k - a : Nat) : Int) * 256) 256 := by
     have h := HQ3.out.2.2.2
     rw [h]
     omega
    rw [e9]
    exact ⟨rfl, hbel.out⟩
end Go.Proofs.YtpbmjfjnmcpieaaGreat
namespace Go.Proofs.YtpbmjfjnmcpieaaGreat
open Go Go.RowKit
/-- what is wrong with the bytes of page k -/
def byK (P : List Pg) (L : List (List Nat)) (k : Nat) : List Ft :=
 if (pgK P k).kind = 1 then (if pageOk (L.getD k []) (pgK P k).cls then [] else [⟨4, k⟩]) else if zeroB ((L.getD k []).drop (endL P k)) then [] else [⟨5, k⟩]
/-- .. of the first k pages -/
def bysK (P : List Pg) (L : List (List Nat)) : Nat -> List Ft
 | 0 => []
 | k + 1 => bysK P L k ++ byK P L k
theorem byK_len (P : List Pg) (L : List (List Nat)) (k : Nat) : (byK P L k).length <= 1 := by
 unfold byK
 split
 ·split <;> simp
 ·split <;> simp
theorem bysK_len (P : List Pg) (L : List (List Nat)) : ∀ k, (bysK P L k).length <= k
 | 0 => Nat.le_refl _
 | k + 1 => by
  have := bysK_len P L k
  have := byK_len P L k
  unfold bysK
  rw [List.length_append]; omega
theorem endL_le (P : List Pg) (k : Nat) : endL P k <= 256 := by unfold endL; omega
theorem lbytes3_c (lk x : Nat) (R : List Nat) (h16 : R.length = 16) (va : Option Addr) (n pc : Nat) (qa : Option Addr) (qc : Nat) (av : Value) (P : List Pg) (hn : P.length = n) (hnm : n <= 64) (ha : P.all oneP = true) (hgo : goP 0 P = true) (L : List (List Nat)) (hL : L.length = n) (h256 : ∀ l ∈ L, l.length = 256) (w : World) (h : LkAt w lk x R (.slice va n pc) (.slice qa n qc) (.slice none 0 0) av) (hP : ∀ w', Below lk w w' -> PgsAt w' va P) (hQ : ∀ w', Below lk w w' -> RowsAt w' qa L) :
  Calls Tryz.prog 23 #[.pointer (some ⟨lk, 0, none⟩)] w fun e w' => (∃ u, e = .returned u) /\ ∃ fv, LkAt w' lk x R (.slice va n pc) (.slice qa n qc) fv av /\ w'.ownsRow w.heap.size 67 2 fv (bysK P L n).length (cellsF (bysK P L n)) /\ Below lk w w' /\ ∀ q, q < w.heap.size -> q ≠ lk -> w'.heap[q]? = w.heap[q]? := by
 have a1 := (cells_at h 18).trans (lkA_18 h16 _ _ _ _)
 have HL0 := Lib.hid h
 have HLS : Hid (lk < w.heap.size) := lt_of_block h
 have HNM := Lib.hid hnm
 have HLN := Lib.hid hL
 have H16 := Lib.hid h16
 have H256 := Lib.hid h256
 have HQ := Lib.hid hQ
 have HEND : Hid (∀ k, k < n -> ∀ w' fv, Below lk w w' -> LkAt w' lk x R (.slice va n pc) (.slice qa n qc) fv av -> Calls Tryz.prog 43 #[.pointer (some ⟨lk, 0, none⟩), .int .i64 (k : Int)] w' fun e w'' => e = .returned (.int .i64 (endV P k)) /\ Below w'.heap.size w' w'') := fun k hk w' fv hb h' =>
  lend2_c lk x R h16 va n pc _ fv av P hn hnm ha hgo k hk w' h' (hP w' hb)
 have HPP := Lib.hid hP
 have HPN := Lib.hid hn
 clear h h16 hn hnm ha hgo hL h256 hP hQ
 go_enter Tryz.func23, Tryz.ntmps23
 go_wp2
 clear a1
 go_loopw [10] (fun vi wr => ∃ k : Nat, k <= n /\ vi = .int .i64 (k : Int) /\ ∃ fv, Hid (LkAt wr lk x R (.slice va n pc) (.slice qa n qc) fv av) /\ Hid (wr.ownsRow w.heap.size 67 2 fv (bysK P L k).length (cellsF (bysK P L k))) /\ Hid (Below lk w wr) /\ Hid (w.heap.size <= wr.heap.size) /\ Hid (∀ q, q < w.heap.size -> q ≠ lk -> wr.heap[q]? = w.heap[q]?)) (fun vi _ => n - (intOf vi).toNat)
 case atStart => exact ⟨0, by omega, rfl, _, HL0.out, World.ownsRow_nil _ _ _ _, Below.refl _ _, Nat.le_refl _, fun _ _ _ => rfl⟩
 case round =>
  obtain ⟨k, hk, rfl, fv, hlk, hown, hbel, hsz, hsv⟩ := hrel
  by_cases hlt : k < n
  ·have hd : decide ((k : Int) < (n : Int)) = true := by simp; omega
   have dl : (k : Int) < (n : Int) := by omega
   have d0 : ¬ (k : Int) < 0 := by omega
   have hkl : k < L.length := by rw [HLN.out]; exact hlt
   obtain ⟨b, hb⟩ : ∃ b, b = L[k] := ⟨_, rfl⟩
   have hget : L[k]? = some b := by rw [hb]; exact List.getElem?_eq_getElem hkl
   have hbl : b.length = 256 := H256.out _ (List.mem_of_getElem? hget)
   obtain ⟨g, o, v, rfl, hg, hc0, hs0⟩ := HQ.out wr hbel.out k b hget
   obtain ⟨a0, c0, rfl, hbb, hn0, hlc, hcm⟩ := hs0
   obtain ⟨gk, ok, rfl, _, hgk, _⟩ := hbb.2 (by rw [hbl]; omega)
   have hTR : bysK P L (k + 1) = bysK P L k ++ (if (pgK P k).kind = 1 then (if pageOk b (pgK P k).cls then [] else [⟨4, k⟩]) else if zeroB (b.drop (endL P k)) then [] else [⟨5, k⟩]) := by
    show bysK P L k ++ byK P L k = _
    unfold byK
    rw [List.getD_eq_getElem?_getD, hget]; rfl
   have HTR := Lib.hid hTR
   have HE := Lib.hid (HEND.out k hlt wr fv hbel.out hlk.out)
   have HBY : Hid (∀ w', Below wr.heap.size wr w' -> BytesAt w' (some ⟨gk, ok, none⟩) c0 b) := fun w' hw => by
    obtain ⟨g', o', v', e1, _, hc2, hs2⟩ := HQ.out w' (hbel.out.trans (hw.mono (by have := hsz.out; have := HLS.out; omega))) k b hget
    cases e1
    have hcell := (hw.cell (p := ⟨g, o + k, none⟩) hg).trans hc0
    rw [hcell] at hc2
    obtain ⟨a9, c9, e9, hb9, _⟩ := hs2
    rw [Option.some.inj hc2.symm] at e9
    cases e9
    exact hb9
   have HSL : Hid (∀ (en : Nat), en <= 256 -> ∀ w : World, (Instr.sliceAt 47 (.slice (some ⟨gk, ok, none⟩) 256 c0) (some (.int .i64 (en : Int))) none none).run Tryz.prog w = .ok (.slice (some ⟨gk, subO ok c0 en, none⟩) (256 - en) (c0 - en)) w) := fun en h w => run_subF gk ok 256 c0 en h w
   have HCC : Hid (256 <= c0) := by show _ <= _; rw [hbl] at hlc; exact hlc
   have HBL := Lib.hid hbl
   have HK := Lib.hid hlt
   have HLEN := Lib.hid (bysK_len P L k)
   have ek : IntKind.i64.wrap ((k : Int) + 1) = (k : Int) + 1 := by have := HNM.out; exact IntWalk.i64_in _ (by omega)
   rw [hbl] at hc0
   clear hb hget hkl hbl hg hbb hn0 hlc hcm hgk hTR hlt hk
   go_wp2_with fail
   refine HE.out.mono ?_
   rintro e w1 ⟨rfl, hb1⟩
   have HL1 : Hid (LkAt w1 lk x R (.slice va n pc) (.slice (some ⟨g, o, none⟩) n qc) fv av) := (hb1.block _ (lt_of_block hlk.out)).trans hlk.out
   have HO1 := Lib.hid (own_up hown.out hb1)
   have HE1 : Hid (Below lk w w1) := hbel.out.trans (hb1.mono (by have := hsz.out; have := HLS.out; omega))
   have HV1 : Hid (∀ q, q < w.heap.size -> q ≠ lk -> w1.heap[q]? = w.heap[q]?) := fun q hq hql => (hb1.block q (by have := hsz.out; omega)).trans (hsv.out q hq hql)
   have HS1 : Hid (w.heap.size <= w1.heap.size) := Nat.le_trans hsz.out hb1.size
   by_cases hk1 : (pgK P k).kind = 1
   ·have hev : endV P k = -1 := by unfold endV; rw [if_pos hk1]
    rw [hev]
    have a17 := (cells_at HL1.out 17).trans (lkA_17 H16.out _ _ _ _)
    obtain ⟨g7, o7, rfl, hg7, hcell7⟩ := HPP.out w1 HE1.out k (pgK P k) (pgK_get (by rw [HPN.out]; exact HK.out))
    have cc : w1.cell? ⟨g7, o7 + k * 5 + 1, none⟩ = some (.int .i64 ((pgK P k).cls : Int)) := hcell7 1 _ rfl
    have HSC := Lib.hid (scheck_c gk ok 256 c0 b HBL.out rfl HCC.out (pgK P k).cls w1 (HBY.out w1 hb1))
    have hTR := HTR.out
    rw [if_pos hk1] at hTR
    obtain ⟨cl, hcl⟩ : ∃ cl, cl = (pgK P k).cls := ⟨_, rfl⟩
    rw [<- hcl] at cc HSC hTR
    clear hb1 hlk hown hbel hsv hsz HE hc0 HBY hk1 hev hcl hg7 hcell7
    cases hpo : pageOk b cl with
    | true =>
     rw [show chkS b cl = 0 by unfold chkS; rw [hpo]; rfl] at HSC
     rw [hpo, if_pos rfl, List.append_nil] at hTR
     clear hpo
     go_wp2_with fail
     refine HSC.out.mono ?_
     rintro e w2 ⟨rfl, rfl⟩
     have HT2 := Lib.hid hTR
     clear hTR HTR
     go_wp2
     go_roundw
     case rel => exact ⟨k + 1, by have := HK.out; omega, by go_num, fv, HL1.out, by rw [HT2.out]; exact HO1.out, HE1.out, HS1.out, HV1.out⟩
     case measure => simp [intOf]; have := HK.out; omega
    | false =>
     rw [show chkS b cl = 4 by unfold chkS; rw [hpo]; rfl] at HSC
     rw [hpo, if_neg (by simp)] at hTR
     clear hpo
     go_wp2_with fail
     refine HSC.out.mono ?_
     rintro e w2 ⟨rfl, rfl⟩
     have HT2 := Lib.hid hTR
     have HWR := Lib.hid (lwrong_c w.heap.size lk x HLS.out R H16.out _ _ fv av (bysK P L k).length (bysK P L k) (by have := HLEN.out; have := HNM.out; have := HK.out; omega) 4 (k : Int) w1 HL1.out HS1.out HO1.out)
     clear hTR HTR
     go_wp2_with fail
     refine HWR.out.mono ?_
     rintro e w3 ⟨⟨u, rfl⟩, fv3, hl3, ho3, hb3, hq3⟩
     have HL3 := Lib.hid hl3
     have HO3 := Lib.hid ho3
     have HE3 : Hid (Below lk w w3) := HE1.out.trans hb3
     have HS3 : Hid (w.heap.size <= w3.heap.size) := Nat.le_trans HS1.out hb3.size
     have HV3 : Hid (∀ q, q < w.heap.size -> q ≠ lk -> w3.heap[q]? = w.heap[q]?) := fun q hq hql => (hq3 q (Nat.lt_of_lt_of_le hq HS1.out) hql (fun e => by have := own_base HO1.out q e; omega)).trans (HV1.out q hq hql)
     clear hl3 ho3 hb3 hq3
     go_wp2
     go_roundw
     case rel => exact ⟨k + 1, by have := HK.out; omega, by go_num, fv3, HL3.out, by rw [HT2.out, List.length_append]; exact HO3.out, HE3.out, HS3.out, HV3.out⟩
     case measure => simp [intOf]; have := HK.out; omega
   ·have hev : endV P k = (endL P k : Int) := by unfold endV; rw [if_neg hk1]
    rw [hev]
    have hle := endL_le P k
    have hTR := HTR.out
    rw [if_neg hk1] at hTR
    obtain ⟨en, hen⟩ : ∃ en, en = endL P k := ⟨_, rfl⟩
    rw [<- hen] at hle hTR ⊢
    have hsl := HSL.out en hle
    have hbz := (HBY.out w1 hb1).sub (lo := en) (hi := b.length) (by rw [HBL.out]; exact hle) (Nat.le_refl _)
    rw [List.take_of_length_le (by rw [List.length_drop]; omega)] at hbz
    have HZC := Lib.hid (zero_c (some ⟨gk, subO ok c0 en, none⟩) (256 - en) (c0 - en) (b.drop en) (by rw [List.length_drop, HBL.out]) (by omega) w1 hbz)
    have dn : ¬ ((en : Int) < 0) := by omega
    have dn2 : decide ((en : Int) < 0) = false := by simp
    have dp : decide ((en : Int) >= 0) = true := by simp
    clear hb1 hlk hown hbel hsv hsz HE hc0 HBY hk1 hev hen hle hbz HSL
    obtain ⟨z, hz⟩ : ∃ z, z = zeroB (b.drop en) := ⟨_, rfl⟩
    rw [<- hz] at HZC hTR
    clear hz
    go_wp2_with fail
    refine HZC.out.mono ?_
    rintro e w2 ⟨rfl, rfl⟩
    cases z with
    | true =>
     rw [if_pos rfl, List.append_nil] at hTR
     have HT2 := Lib.hid hTR
     clear hTR HTR
     go_wp2
     go_roundw
     case rel => exact ⟨k + 1, by have := HK.out; omega, by go_num, fv, HL1.out, by rw [HT2.out]; exact HO1.out, HE1.out, HS1.out, HV1.out⟩
     case measure => simp [intOf]; have := HK.out; omega
    | false =>
     rw [if_neg (by simp)] at hTR
     have HT2 := Lib.hid hTR
     have HWR := Lib.hid (lwrong_c w.heap.size lk x HLS.out R H16.out _ _ fv av (bysK P L k).length (bysK P L k) (by have := HLEN.out; have := HNM.out; have := HK.out; omega) 5 (k : Int) w1 HL1.out HS1.out HO1.out)
     clear hTR HTR
     go_wp2_with fail
     refine HWR.out.mono ?_
     rintro e w3 ⟨⟨u, rfl⟩, fv3, hl3, ho3, hb3, hq3⟩
     have HL3 := Lib.hid hl3
     have HO3 := Lib.hid ho3
     have HE3 : Hid (Below lk w w3) := HE1.out.trans hb3
     have HS3 : Hid (w.heap.size <= w3.heap.size) := Nat.le_trans HS1.out hb3.size
     have HV3 : Hid (∀ q, q < w.heap.size -> q ≠ lk -> w3.heap[q]? = w.heap[q]?) := fun q hq hql => (hq3 q (Nat.lt_of_lt_of_le hq HS1.out) hql (fun e => by have := own_base HO1.out q e; omega)).trans (HV1.out q hq hql)
     clear hl3 ho3 hb3 hq3
     go_wp2
     go_roundw
     case rel => exact ⟨k + 1, by have := HK.out; omega, by go_num, fv3, HL3.out, by rw [HT2.out, List.length_append]; exact HO3.out, HE3.out, HS3.out, HV3.out⟩
     case measure => simp [intOf]; have := HK.out; omega
  ·have hd : decide ((k : Int) < (n : Int)) = false := by simp; omega
   have dl : ¬ (k : Int) < (n : Int) := by omega
   have hkn : k = n := by omega
   subst hkn
   go_wp2
   refine bodyPost_end (results_none rfl _ _ _) rfl ?_
   exact ⟨⟨_, rfl⟩, fv, hlk.out, hown.out, hbel.out, hsv.out⟩
end Go.Proofs.YtpbmjfjnmcpieaaGreat
namespace Go.Proofs.YtpbmjfjnmcpieaaGreat
open Go Go.RowKit
structure Pl where
 p : Nat
 s : Nat
 q : Nat
def plB (f : Pl) : Array Value := #[.int .i64 (f.p : Int), .int .i64 (f.s : Int), .int .u64 (f.q : Int)]
theorem plB_one (f : Pl) : (plB f).all (·.oneCell') = true := plA_one _ _ _
def PlsAt (w : World) (a : Option Addr) (L : List Pl) : Prop := ∀ (i : Nat) (p : Pl), L[i]? = some p -> ∃ g o, a = some ⟨g, o, none⟩ /\ g < w.heap.size /\ w.rangeAt g (o + i * 3) (plB p).toList
theorem PlsAt.up {w w' : World} {a : Option Addr} {L : List Pl} (h : PlsAt w a L) {B : Nat} (hb : Below B w w') (hB : w.heap.size <= B) : PlsAt w' a L := by
 intro i p hp
 obtain ⟨g, o, h1, h2, h3⟩ := h i p hp
 exact ⟨g, o, h1, Nat.lt_of_lt_of_le h2 hb.size, fun j u hu => (hb.cell (p := ⟨g, o + i * 3 + j, none⟩) (Nat.lt_of_lt_of_le h2 hB)).trans (h3 j u hu)⟩
theorem PlsAt.take {w : World} {a : Option Addr} {L : List Pl} (h : PlsAt w a L) (n : Nat) : PlsAt w a (L.take n) := fun i p hp => by
 rw [List.getElem?_take] at hp
 split at hp
 ·exact h i p hp
 ·cases hp
def rowL (p : Pl) : List Value := (plB p).toList
def cellsL (L : List Pl) : List Value := L.flatMap rowL
theorem rowL_len (p : Pl) : (rowL p).length = 3 := rfl
theorem cellsL_len (L : List Pl) : (cellsL L).length = L.length * 3 := by
 induction L with
 | nil => rfl
 | cons x xs ih => unfold cellsL at *; rw [List.flatMap_cons, List.length_append, ih, rowL_len, List.length_cons]; omega
theorem cellsL_app (L M : List Pl) : cellsL (L ++ M) = cellsL L ++ cellsL M := by unfold cellsL; rw [List.flatMap_append]
theorem cellsL_get : ∀ (L : List Pl) (i j : Nat) (p : Pl), L[i]? = some p -> j < 3 -> (cellsL L)[i * 3 + j]? = (rowL p)[j]?
 | [], i, j, p, h, hj => by cases h
 | x :: xs, 0, j, p, h, hj => by
  have hx : x = p := by simpa using h
  subst hx
  show (rowL x ++ cellsL xs)[0 * 3 + j]? = _
  rw [Nat.zero_mul, Nat.zero_add, List.getElem?_append_left (by rw [rowL_len]; exact hj)]
 | x :: xs, i + 1, j, p, h, hj => by
  show (rowL x ++ cellsL xs)[(i + 1) * 3 + j]? = _
  rw [List.getElem?_append_right (by rw [rowL_len]; omega), rowL_len, show (i + 1) * 3 + j - 3 = i * 3 + j by omega]
  exact cellsL_get xs i j p (by simpa using h) hj
theorem cellsL_oneCell (L : List Pl) : ∀ v ∈ cellsL L, v.oneCell' = true := by
 intro v hv
 unfold cellsL at hv
 obtain ⟨p, _, hp⟩ := List.mem_flatMap.1 hv
 have := plB_one p
 rw [<- Array.all_toList, List.all_eq_true] at this
 exact this v hp
theorem plinfo : (Tryz.prog.info? 106).map (fun i => (i.zero, i.size, i.bytes)) = some (some (.agg (plB ⟨0, 0, 0⟩)), 3, 24) := by kernel_rfl
theorem pls_of_own {w : World} {base n : Nat} {a : Option Addr} {c : Nat} {L : List Pl} (hown : w.ownsRow base 106 3 (.slice a n c) n (cellsL L)) : PlsAt w a L := by
 intro i p hp
 have hi : i < L.length := (List.getElem?_eq_some_iff.1 hp).1
 have hn : n = L.length := by have := hown.1; rw [cellsL_len] at this; omega
 rcases hown.2 with ⟨h3, h4⟩ | ⟨g, cap, cur, h3, h4, h5, h6⟩
 ·omega
 ·cases h3
  refine ⟨g, 0, rfl, lt_of_block h5, fun j u hu => ?_⟩
  have hj : j < 3 := by have := (List.getElem?_eq_some_iff.1 hu).1; simpa [plB] using this
  rw [Nat.zero_add, hown.cellAt (i * 3 + j) (by omega), cellsL_get L i j p hp hj]
  exact hu
theorem pls_cells {w : World} {g o m : Nat} {M : List Pl} (h : PlsAt w (some ⟨g, o, none⟩) M) : ∀ j u, (cellsL M)[j]? = some u -> w.cell? ⟨g, o + j, none⟩ = some u := by
 intro j u hu
 have hj : j < M.length * 3 := by have := (List.getElem?_eq_some_iff.1 hu).1; rwa [cellsL_len] at this
 have hq : j / 3 < M.length := by omega
 obtain ⟨g', o', e1, _, h3⟩ := h (j / 3) M[j / 3] (List.getElem?_eq_getElem hq)
 cases e1
 have e : j / 3 * 3 + j % 3 = j := by omega
 have h4 := cellsL_get M (j / 3) (j % 3) _ (List.getElem?_eq_getElem hq) (by omega)
 rw [e, hu] at h4
 have h5 := h3 (j % 3) u h4.symm
 rw [Nat.add_assoc, e] at h5
 exact h5
/-- append of pages -/
theorem run_append_pls {w : World} (ty : TypeId) {base n : Nat} {v : Value} {L : List Pl} (hA : w.ownsRow base 106 3 v n (cellsL L)) {a : Option Addr} {m cap : Nat} {M : List Pl} (hm : M.length = m) (hM : PlsAt w a M) (hnil : a = none -> m = 0 /\ cap = 0) (hpl : ∀ p, a = some p -> p.spot = none) (h63 : n + m <= 1000000) (hbase : base <= w.heap.size) :
  ∃ v' w', (Builtin.append_ #[69, 69] ty #[v, .slice a m cap]).run Tryz.prog w = .ok v' w' /\ w'.ownsRow base 106 3 v' (n + m) (cellsL (L ++ M)) /\ w.grownBy w' v.ownBlock := by
 obtain ⟨i0, hi, h⟩ := Option.map_eq_some_iff.1 plinfo
 simp only [Prod.mk.injEq] at h
 cases a with
 | none =>
  obtain ⟨rfl, rfl⟩ := hnil rfl
  have hl : M = [] := List.length_eq_zero_iff.1 hm
  subst hl
  refine ⟨v, w, run_append_owned_none w base 69 ty 106 i0 3 Tryz.underlying69 hi v n _ hA, ?_, World.grownBy.refl w _⟩
  simpa using hA
 | some ad =>
  obtain ⟨g, o, sp⟩ := ad
  have hsp : sp = none := hpl _ rfl
  subst hsp
  obtain ⟨v', w', h4, h5, h6, _⟩ := run_append_own_at (P := Tryz.prog) w base 69 ty 106 i0 _ 3 24 Tryz.underlying69 hi h.1 h.2.1 h.2.2 rfl (by omega) v n (cellsL L) hA ⟨g, o, none⟩ m cap (cellsL M) (by rw [cellsL_len, hm])
   (fun j u hu => by rw [add_plain]; exact pls_cells (m := m) hM j u hu) (cellsL_oneCell M) (by unfold maxLen; omega) (by omega) hbase
  exact ⟨v', w', h4, by rw [cellsL_app]; exact h5, h6⟩
theorem wpList_append_pls {w : World} {ops : Array Oper} {rest : List Oper} {o : Oper} {A : Act} {Q : Exit -> Act -> World -> Prop} (hgd : o.guard = none) (s x : Operand)
  (ho : o.op = .call { callee := .builtin .append, args := #[s, x], argTypes := #[69, 69] }) {base n : Nat} {v : Value} {L : List Pl} (hs : A.eval s = v) (hA : w.ownsRow base 106 3 v n (cellsL L))
  {a : Option Addr} {m cap : Nat} {M : List Pl} (hx : A.eval x = .slice a m cap) (hm : M.length = m) (hM : PlsAt w a M) (hnil : a = none -> m = 0 /\ cap = 0) (hpl : ∀ p, a = some p -> p.spot = none) (h63 : n + m <= 1000000) (hbase : base <= w.heap.size)
  (h : ∀ v' w', w'.ownsRow base 106 3 v' (n + m) (cellsL (L ++ M)) -> w.grownBy w' v.ownBlock -> wpList Tryz.prog ops Q rest (A.put o.dst v') w') : wpList Tryz.prog ops Q (o :: rest) A w :=
 wpList_plain hgd fun _ hK => by
  obtain ⟨v', w', h1, h2, h3⟩ := run_append_pls o.type hA hm hM hnil hpl h63 hbase
  unfold Oper.wp execOp
  simp only [ho, resolve, invoke, builtin, Sem.run_bind, Sem.run_pure, Result.andThen_ok, List.map_toArray, List.map_cons, List.map_nil, hs, hx, h1]
  exact hK _ _ (h v' w' h2 h3)
theorem fillL_any (p : Pl) (B : Array Value) (hB : B.size = 3) : Instr.fill (fun i => some (i * 3, 3)) B [(0, .agg (plB p))] = some (plB p) := by
 obtain ⟨l⟩ := B
 match l, hB with
 | [b0, b1, b2], _ =>
  unfold Instr.fill
  simp only [Value.cells, plB, Nat.zero_mul]
  simp [Instr.fill]
theorem wpList_build_pl {w : World} {ops : Array Oper} {rest : List Oper} {o : Oper} {A : Act} {Q : Exit -> Act -> World -> Prop} (hgd : o.guard = none) (x : Operand) (ho : o.op = .buildSlice 69 1 #[(0, x)])
  {p : Pl} (hx : A.eval x = .agg (plB p)) (h : wpList Tryz.prog ops Q rest (A.put o.dst (.slice (some ⟨w.heap.size, 0, none⟩) 1 1)) (w.alloc (.cells (plB p) 106))) : wpList Tryz.prog ops Q (o :: rest) A w := by
 obtain ⟨i0, hi, hh⟩ := Option.map_eq_some_iff.1 plinfo
 simp only [Prod.mk.injEq] at hh
 refine wpList_buildSlice hgd 69 106 1 _ ho (plB p) i0 _ Tryz.underlying69 hi hh.1 (by rw [hh.2.1]; decide) (by rw [hh.2.1]; decide) ?_ h
 rw [hh.2.1]
 rw [show (Array.map (fun x : Nat × Operand => match x with | (i, x) => (i, A.eval x)) #[(0, x)]).toList = [(0, A.eval x)] by simp, hx]
 exact fillL_any p _ (by simp [plB, Value.cells])
theorem pls_blk {w : World} {g : Nat} {p : Pl} {t : TypeId} {z : Nat × Nat} (h : w.heap[g]? = some (.cells (plB p) t z)) : PlsAt w (some ⟨g, 0, none⟩) [p] := by
 intro i q hq
 have hi : i = 0 := by have := (List.getElem?_eq_some_iff.1 hq).1; simpa using this
 subst hi
 have hpq : p = q := by simpa using hq
 subst hpq
 refine ⟨g, 0, rfl, lt_of_block h, fun j u hu => ?_⟩
 rw [Nat.zero_mul, Nat.zero_add, cells_at h j, <- hu, Array.getElem?_toList]
end Go.Proofs.YtpbmjfjnmcpieaaGreat
namespace Go.Proofs.YtpbmjfjnmcpieaaGreat
open Go Go.RowKit
theorem same_c (x mb : Nat) (p : Pl) (w : World) (hc : w.cell? ⟨mb, 2, none⟩ = some (.int .u64 (x : Int))) (hm : mb < w.heap.size) :
  Calls Tryz.prog 49 #[.agg (plB p), .pointer (some ⟨mb, 0, none⟩)] w fun e w' => e = .returned (.bool (p.q == x)) /\ Below w.heap.size w w' := by
 have HBLK := Lib.hid (heap_new' w (.cells (plB p) 106))
 have HE := Lib.hid (below_box w (.cells (plB p) 106))
 have c2 := (cells_at HBLK.out 2).trans (show _ = some (Value.int .u64 (p.q : Int)) from rfl)
 have cm : (w.alloc (.cells (plB p) 106)).cell? ⟨mb, 2, none⟩ = some (.int .u64 (x : Int)) := (HE.out.cell (p := ⟨mb, 2, none⟩) hm).trans hc
 obtain ⟨s, hs⟩ : ∃ s, s = p.q := ⟨_, rfl⟩
 rw [<- hs] at c2 ⊢
 clear hs hc hm
 by_cases h : s = x
 ·have h1 : (s == x) = true := by simp [h]
  have h2 : ((s : Int) == (x : Int)) = true := by simp; omega
  have h3 : (s : Int) = (x : Int) := by omega
  rw [h1]
  clear h h1
  go_enter Tryz.func49, Tryz.ntmps49
  go_wp2
  go_ret
  exact ⟨rfl, HE.out⟩
 ·have h1 : (s == x) = false := by simp [h]
  have h2 : ((s : Int) == (x : Int)) = false := by simp; omega
  have h3 : ¬ (s : Int) = (x : Int) := by omega
  rw [h1]
  clear h h1
  go_enter Tryz.func49, Tryz.ntmps49
  go_wp2
  go_ret
  exact ⟨rfl, HE.out⟩
theorem ix_same_c (a : Option Addr) (n cap : Nat) (L : List Pl) (hn : L.length = n) (hnm : n <= 1000000) (mb x : Nat) (w : World) (hR : PlsAt w a L) (hx : w.cell? ⟨mb, 2, none⟩ = some (.int .u64 (x : Int))) (hmb : mb < w.heap.size) :
  Calls Tryz.prog 79 #[.slice a n cap, .func (.func 49) #[] #[.pointer (some ⟨mb, 0, none⟩)]] w fun e w' => (∃ r : Int, e = .returned (.int .i64 r) /\ decide (r >= 0) = L.any (fun p => p.q == x)) /\ Below w.heap.size w w' := by
 have HR := Lib.hid hR
 have HN := Lib.hid hn
 have HNM := Lib.hid hnm
 have HX := Lib.hid hx
 have HM := Lib.hid hmb
 clear hx hmb
 clear hR hn hnm
 go_enter Tryz.func79, Tryz.ntmps79
 go_wp2
 go_loopw [8] (fun vi wr => ∃ k : Nat, k <= n /\ vi = .int .i64 (k : Int) /\ Hid ((L.take k).any (fun p => p.q == x) = false) /\ Hid (Below w.heap.size w wr)) (fun vi _ => n - (intOf vi).toNat)
 case atStart => exact ⟨0, by omega, rfl, rfl, Below.refl _ _⟩
 case round =>
  obtain ⟨k, hk, rfl, hall, hbel⟩ := hrel
  by_cases hlt : k < n
  ·have hd : decide ((k : Int) < (n : Int)) = true := by simp; omega
   have dl : (k : Int) < (n : Int) := by omega
   have d0 : ¬ (k : Int) < 0 := by omega
   have hkl : k < L.length := by rw [HN.out]; exact hlt
   have hget := List.getElem?_eq_getElem hkl
   obtain ⟨p, hp⟩ : ∃ p, p = L[k] := ⟨_, rfl⟩
   rw [<- hp] at hget
   obtain ⟨g, o, rfl, hg, hcell⟩ := HR.out k p hget
   have HC : Hid (wr.rangeAt g (o + k * 3) (plB p).toList) := fun j u hu => (hbel.out.cell (p := ⟨g, o + k * 3 + j, none⟩) hg).trans (hcell j u hu)
   have HG := Lib.hid hget
   have HK := Lib.hid hlt
   have ek : IntKind.i64.wrap ((k : Int) + 1) = (k : Int) + 1 := by have := HNM.out; exact IntWalk.i64_in _ (by omega)
   have HB := Lib.hid (same_c x mb p wr ((hbel.out.cell (p := ⟨mb, 2, none⟩) HM.out).trans HX.out) (Nat.lt_of_lt_of_le HM.out hbel.out.size))
   clear hget hp hkl hg hcell hk hlt
   cases ht : (fun p => p.q == x) p with
   | false =>
    have HT : Hid ((L.take (k + 1)).any (fun p => p.q == x) = false) := any_snoc L _ k p HG.out hall.out ht
    simp only [] at ht
    rw [ht] at HB
    clear ht hall
    go_wp2_with (first
     | (refine wpList_load_mid rfl 106 (.tmp 14) rfl g (o + k * 3) rfl _ _ HC.out Tryz.underlying106 rfl (by rw [place3]; rfl) ?_)
     | fail)
    refine HB.out.mono ?_
    rintro e w1 ⟨rfl, hb1⟩
    have HE1 : Hid (Below w.heap.size w w1) := hbel.out.trans (hb1.mono hbel.out.size)
    clear hb1 hbel
    go_wp2
    go_roundw
    case rel => exact ⟨k + 1, by have := HK.out; omega, by go_num, HT.out, HE1.out⟩
    case measure => simp [intOf]; have := HK.out; omega
   | true =>
    have HT : Hid (L.any (fun p => p.q == x) = true) := any_at L _ k p HG.out ht
    simp only [] at ht
    rw [ht] at HB
    clear ht hall
    go_wp2_with (first
     | (refine wpList_load_mid rfl 106 (.tmp 14) rfl g (o + k * 3) rfl _ _ HC.out Tryz.underlying106 rfl (by rw [place3]; rfl) ?_)
     | fail)
    refine HB.out.mono ?_
    rintro e w1 ⟨rfl, hb1⟩
    have HE1 : Hid (Below w.heap.size w w1) := hbel.out.trans (hb1.mono hbel.out.size)
    clear hb1 hbel
    go_wp2
    go_ret
    exact ⟨⟨_, rfl, by rw [HT.out]; simp⟩, HE1.out⟩
  ·have hkn : k = n := by omega
   have hd : decide ((k : Int) < (n : Int)) = false := by simp; omega
   have dl : ¬ (k : Int) < (n : Int) := by omega
   have HT : Hid (L.any (fun p => p.q == x) = false) := by
    have h := hall.out
    rw [List.take_of_length_le (by rw [HN.out]; omega)] at h; exact h
   clear hall hkn hk hlt
   go_wp2
   go_ret
   exact ⟨⟨_, rfl, by rw [HT.out]; decide⟩, hbel.out⟩
theorem cf_same_c (a : Option Addr) (n cap : Nat) (L : List Pl) (hn : L.length = n) (hnm : n <= 1000000) (mb x : Nat) (w : World) (hR : PlsAt w a L) (hx : w.cell? ⟨mb, 2, none⟩ = some (.int .u64 (x : Int))) (hmb : mb < w.heap.size) :
  Calls Tryz.prog 50 #[.slice a n cap, .func (.func 49) #[] #[.pointer (some ⟨mb, 0, none⟩)]] w fun e w' => e = .returned (.bool (L.any (fun p => p.q == x))) /\ Below w.heap.size w w' := by
 have HC := Lib.hid (ix_same_c a n cap L hn hnm mb x w hR hx hmb)
 clear hR hn hnm
 go_enter Tryz.func50, Tryz.ntmps50
 go_wp2_with fail
 refine HC.out.mono ?_
 rintro e w1 ⟨⟨r, rfl, hr⟩, hb1⟩
 have HE1 := Lib.hid hb1
 clear hb1
 go_wp2
 go_ret
 first
  | exact ⟨by rw [<- hr]; rfl, HE1.out⟩
  | (simp only [ge_iff_le] at hr; exact ⟨by rw [<- hr]; rfl, HE1.out⟩)
end Go.Proofs.YtpbmjfjnmcpieaaGreat
namespace Go.Proofs.YtpbmjfjnmcpieaaGreat
open Go Go.RowKit Go.Lib
theorem run_subLh (g o len cap h : Nat) (hh : h <= cap) (w : World) :
  (Instr.sliceAt 69 (.slice (some ⟨g, o, none⟩) len cap) none (some (.int .i64 (h : Int))) none).run Tryz.prog w = .ok (.slice (some ⟨g, o, none⟩) h cap) w := by
 obtain ⟨i0, hi, hz⟩ := Option.map_eq_some_iff.1 plinfo
 have he : Tryz.prog.elem 69 = 106 := by kernel_rfl
 have hu : Tryz.prog.underlying 69 = some (.slice (Tryz.prog.elem 69)) := by rw [he]; exact Tryz.underlying69
 rw [run_sliceAt_slice (h := hu), run_slice_h (ht := hu) (h0 := by omega) (h2 := by omega)]
 rw [he, run_sizeOf (w := w) hi, show Tryz.prog.cellsOf 106 = 3 from (by kernel_rfl)]
 simp only [Result.andThen_ok, sliced, Int.toNat_natCast, Nat.zero_mul, Nat.sub_zero]
 split
 ·rfl
 ·simp only [Option.map_some]; rw [add_plain, Nat.add_zero]
/-- what is wrong with the serial of object k -/
def serK (A : List Pl) (x k : Nat) : List Ft :=
 if x <= (A.getD k ⟨0, 0, 0⟩).q then [⟨2, ((A.getD k ⟨0, 0, 0⟩).p : Int)⟩] else if (A.take k).any (fun y => y.q == (A.getD k ⟨0, 0, 0⟩).q) then [⟨3, ((A.getD k ⟨0, 0, 0⟩).p : Int)⟩] else []
def sersK (A : List Pl) (x : Nat) : Nat -> List Ft
 | 0 => []
 | k + 1 => sersK A x k ++ serK A x k
theorem sersK_len (A : List Pl) (x : Nat) : ∀ k, (sersK A x k).length <= k
 | 0 => Nat.le_refl _
 | k + 1 => by
  have h := sersK_len A x k
  have h1 : (serK A x k).length <= 1 := by
   unfold serK
   split
   ·simp
   ·split <;> simp
  unfold sersK
  rw [List.length_append]; omega
theorem own_apart {w : World} {B1 B2 n1 n2 z1 z2 : Nat} {v1 v2 : Value} {x1 x2 : List Value} (h1 : w.ownsRow B1 67 z1 v1 n1 x1) (h2 : w.ownsRow B2 106 z2 v2 n2 x2) (q : Nat) (e2 : v2.ownBlock = some q) : v1.ownBlock ≠ some q := fun e1 => by
 rcases h1.2 with ⟨h9, _⟩ | ⟨g9, cap9, cur9, a1, a2, a3, a4⟩
 ·rw [h9] at e1; cases e1
 ·rcases h2.2 with ⟨h8, _⟩ | ⟨g8, cap8, cur8, b1, b2, b3, b4⟩
  ·rw [h8] at e2; cases e2
  ·rw [a1] at e1; rw [b1] at e2
   cases e1; cases e2
   have h7 := a3.symm.trans b3
   cases h7
theorem own_le {w : World} {B q o n c : Nat} {xs : List Value} {e : TypeId} {z : Nat} (h : w.ownsRow B e z (.slice (some ⟨q, o, none⟩) n c) n xs) : n <= c := by
 rcases h.2 with ⟨h9, _⟩ | ⟨g9, cap9, cur9, e1, e2, e3, e4, _⟩
 ·cases h9
 ·cases e1; exact e4
theorem own_lt {w : World} {B n z q : Nat} {v : Value} {x : List Value} {t : TypeId} (h : w.ownsRow B t z v n x) (e : v.ownBlock = some q) : q < w.heap.size := by
 rcases h.2 with ⟨h9, _⟩ | ⟨g9, cap9, cur9, a1, a2, a3, a4⟩
 ·rw [h9] at e; cases e
 ·rw [a1] at e; cases e; exact lt_of_block a3
theorem own_apart_tb {w : World} {B1 n1 z1 tb : Nat} {v1 : Value} {x1 : List Value} {TT : Array Value} {tt : TypeId} {z : Nat × Nat} (h1 : w.ownsRow B1 67 z1 v1 n1 x1) (h2 : w.heap[tb]? = some (.cells TT tt z)) (htt : tt ≠ 67) : v1.ownBlock ≠ some tb := fun e1 => by
 rcases h1.2 with ⟨h9, _⟩ | ⟨g9, cap9, cur9, a1, a2, a3, a4⟩
 ·rw [h9] at e1; cases e1
 ·rw [a1] at e1
  cases e1
  have h7 := a3.symm.trans h2
  cases h7
  exact htt rfl
theorem lserials3_c (lk x : Nat) (R : List Nat) (h16 : R.length = 16) (pv qv fv : Value) (aa : Option Addr) (m ac : Nat) (A : List Pl) (hA : A.length = m) (hm : m <= 1100) (n0 : Nat) (F0 : List Ft) (hn0 : n0 <= 64) (w : World) (h : LkAt w lk x R pv qv fv (.slice aa m ac)) (hf : w.ownsRow (lk + 1) 67 2 fv n0 (cellsF F0)) (hp : w.ownsRow (lk + 1) 106 3 (.slice aa m ac) m (cellsL A)) (tb : Nat) (TT : Array Value) (tt : TypeId) (htt : tt ≠ 67) (htl : tb ≠ lk) (ht : w.heap[tb]? = some (.cells TT tt (0, 0))) :
  Calls Tryz.prog 25 #[.pointer (some ⟨lk, 0, none⟩)] w fun e w' => (∃ u, e = .returned u) /\ ∃ fv', LkAt w' lk x R pv qv fv' (.slice aa m ac) /\ w'.ownsRow (lk + 1) 67 2 fv' (n0 + (sersK A x m).length) (cellsF (F0 ++ sersK A x m)) /\ w'.ownsRow (lk + 1) 106 3 (.slice aa m ac) m (cellsL A) /\ Below lk w w' /\ w'.heap[tb]? = some (.cells TT tt (0, 0)) := by
 have a1 := (cells_at h 20).trans (lkA_20 h16 _ _ _ _)
 have HL0 := Lib.hid h
 have HF0 := Lib.hid hf
 have HP0 := Lib.hid hp
 have HT0 := Lib.hid ht
 have HTT := Lib.hid (And.intro htt htl)
 have H16 := Lib.hid h16
 have HAL := Lib.hid hA
 have HM := Lib.hid hm
 have HN0 := Lib.hid hn0
 clear h hf hp ht htt htl h16 hA hm hn0
 go_enter Tryz.func25, Tryz.ntmps25
 go_wp2
 clear a1
 go_loopw [10] (fun vi wr => ∃ k : Nat, k <= m /\ vi = .int .i64 (k : Int) /\ ∃ fw, Hid (LkAt wr lk x R pv qv fw (.slice aa m ac)) /\ Hid (wr.ownsRow (lk + 1) 67 2 fw (n0 + (sersK A x k).length) (cellsF (F0 ++ sersK A x k))) /\ Hid (wr.ownsRow (lk + 1) 106 3 (.slice aa m ac) m (cellsL A)) /\ Hid (Below lk w wr) /\ Hid (wr.heap[tb]? = some (.cells TT tt (0, 0)))) (fun vi _ => m - (RowKit.intOf vi).toNat)
 case atStart => exact ⟨0, by omega, rfl, fv, HL0.out, by show World.ownsRow _ _ _ _ _ _ _; rw [show sersK A x 0 = [] from rfl, List.append_nil]; exact HF0.out, HP0.out, Below.refl _ _, HT0.out⟩
 case round =>
  obtain ⟨k, hk, rfl, fw, hlk, hfr, hpr, hbel, htr⟩ := hrel
  by_cases hlt : k < m
  ·have hd : decide ((k : Int) < (m : Int)) = true := by simp; omega
   have dl : (k : Int) < (m : Int) := by omega
   have d0 : ¬ (k : Int) < 0 := by omega
   obtain ⟨p, hpd⟩ : ∃ p, p = A.getD k ⟨0, 0, 0⟩ := ⟨_, rfl⟩
   have hget : A[k]? = some p := by
    rw [hpd, List.getD_eq_getElem?_getD, List.getElem?_eq_getElem (by rw [HAL.out]; exact hlt)]; rfl
   have hpls := pls_of_own hpr.out
   obtain ⟨g, o, rfl, hg, hcell⟩ := hpls k p hget
   have HC : Hid (wr.rangeAt g (o + k * 3) (plB p).toList) := hcell
   have hss : sersK A x (k + 1) = sersK A x k ++ (if x <= p.q then [⟨2, (p.p : Int)⟩] else if (A.take k).any (fun y => y.q == p.q) then [⟨3, (p.p : Int)⟩] else []) := by
    show sersK A x k ++ serK A x k = _
    unfold serK; rw [<- hpd]
   have HSS := Lib.hid hss
   have HZ : Hid ((wr.alloc (.cells #[.int .i64 0, .int .i64 0, .int .u64 0] 106)).heap[wr.heap.size]? = some (.cells (plB ⟨0, 0, 0⟩) 106 (0, 0))) := heap_new' _ _
   have HE1 : Hid (Below wr.heap.size wr (wr.alloc (.cells #[.int .i64 0, .int .i64 0, .int .u64 0] 106))) := below_box _ _
   have HK := Lib.hid hlt
   have HLEN := Lib.hid (sersK_len A x k)
   have ek : IntKind.i64.wrap ((k : Int) + 1) = (k : Int) + 1 := by have := HM.out; exact IntWalk.i64_in _ (by omega)
   clear hget hpd hpls hg hcell hss hlt hk
   go_wp2_with (first
    | (refine wpList_load_mid rfl 106 (.tmp 13) rfl g (o + k * 3) rfl _ _ HC.out Tryz.underlying106 rfl (by rw [place3]; rfl) ?_)
    | (refine wpList_store_row rfl 106 (.tmp 3) (.tmp 14) rfl wr.heap.size (plB p) rfl rfl 106 _ HZ.out (by rw [place3]; rfl) rfl (plB_one _) ?_; generalize hW1 : World.setRow _ _ _ = w1; have HZ1 : Hid (w1.heap[wr.heap.size]? = some (.cells (plB p) 106 (0, 0))) := (by show _ = _; rw [<- hW1]; exact setRow_heap _ _ _ _ _ _ HZ.out); have HE2 : Hid (Below wr.heap.size wr w1) := (by rw [<- hW1]; exact below_setRow HE1.out (Nat.le_refl _) _); have c2 := (cells_at HZ1.out 2).trans (show _ = some (Value.int .u64 (p.q : Int)) from rfl); have x0 := (cells_at ((HE2.out.block _ (lt_of_block hlk.out)).trans hlk.out) 0).trans (lkA_0 H16.out _ _ _ _); clear hW1)
    | fail)
   by_cases hx : x <= p.q
   ·have dge : decide ((p.q : Int) >= (x : Int)) = true := by simp; omega
    have ix : (x : Int) <= (p.q : Int) := by omega
    have hs9 := HSS.out
    rw [if_pos hx] at hs9
    have HS9 := Lib.hid hs9
    clear hs9 hx HSS
    go_quiet (fail)
    have hdr : Below wr.heap.size wr (w1.drewN nq) := below_drewG HE2.out _
    have hsm : Below w1.heap.size w1 (w1.drewN nq) := below_drewG (Below.refl _ _) _
    have HZ2 := Lib.hid ((hsm.block _ (lt_of_block HZ1.out)).trans HZ1.out)
    have HL2 := Lib.hid ((hdr.block _ (lt_of_block hlk.out)).trans hlk.out)
    have HF2 := Lib.hid (own_up hfr.out hdr)
    have HP2 := Lib.hid (own_up hpr.out hdr)
    have HT2 := Lib.hid ((hdr.block _ (lt_of_block htr.out)).trans htr.out)
    have HE3 : Hid (Below lk w (w1.drewN nq)) := hbel.out.trans (hdr.mono (Nat.le_of_lt (lt_of_block hlk.out)))
    have HMB : Hid (wr.heap.size < (w1.drewN nq).heap.size) := lt_of_block HZ2.out
    have p0 := (cells_at HZ2.out 0).trans (show _ = some (Value.int .i64 (p.p : Int)) from rfl)
    clear hdr hsm c2 x0 HE2 HZ1 hlk hfr hpr hbel htr
    generalize (w1.drewN nq) = w2 at *
    have HWR := Lib.hid (lwrong_c (lk + 1) lk x (Nat.lt_succ_self lk) R H16.out _ _ fw _ (n0 + (sersK A x k).length) (F0 ++ sersK A x k) (by have := HLEN.out; have := HM.out; have := HK.out; have := HN0.out; omega) 2 (p.p : Int) w2 HL2.out (lt_of_block HL2.out) HF2.out)
    go_wp2_with fail
    refine HWR.out.mono ?_
    rintro e w5 ⟨⟨u, rfl⟩, fv5, hl5, ho5, hb5, hq5⟩
    have HP5 := Lib.hid (own_keep HP2.out (fun q e => hq5 q (own_lt HP2.out e) (by have := own_base HP2.out q e; omega) (own_apart HF2.out HP2.out q e)))
    have HT5 := Lib.hid ((hq5 tb (lt_of_block HT2.out) HTT.out.2 (own_apart_tb HF2.out HT2.out HTT.out.1)).trans HT2.out)
    have HL5 := Lib.hid hl5
    have HF5 : Hid (w5.ownsRow (lk + 1) 67 2 fv5 (n0 + (sersK A x (k + 1)).length) (cellsF (F0 ++ sersK A x (k + 1)))) := by
     show World.ownsRow _ _ _ _ _ _ _
     rw [HS9.out, List.length_append, <- List.append_assoc, <- Nat.add_assoc]; exact ho5
    have HE5 : Hid (Below lk w w5) := HE3.out.trans hb5
    clear hl5 ho5 hb5 hq5 HWR
    go_wp2
    go_roundw
    case rel => exact ⟨k + 1, by have := HK.out; omega, by go_num, fv5, HL5.out, HF5.out, HP5.out, HE5.out, HT5.out⟩
    case measure => simp [RowKit.intOf]; have := HK.out; omega
   ·have dge : decide ((p.q : Int) >= (x : Int)) = false := by simp; omega
    have ix : ¬ (x : Int) <= (p.q : Int) := by omega
    have hs9 := HSS.out
    rw [if_neg hx] at hs9
    have HS8 := Lib.hid hs9
    clear hs9 hx HSS
    go_quiet (fail)
    have hdr : Below wr.heap.size wr (w1.drewN nq) := below_drewG HE2.out _
    have hsm : Below w1.heap.size w1 (w1.drewN nq) := below_drewG (Below.refl _ _) _
    have HZ2 := Lib.hid ((hsm.block _ (lt_of_block HZ1.out)).trans HZ1.out)
    have HL2 := Lib.hid ((hdr.block _ (lt_of_block hlk.out)).trans hlk.out)
    have HF2 := Lib.hid (own_up hfr.out hdr)
    have HP2 := Lib.hid (own_up hpr.out hdr)
    have HT2 := Lib.hid ((hdr.block _ (lt_of_block htr.out)).trans htr.out)
    have HE3 : Hid (Below lk w (w1.drewN nq)) := hbel.out.trans (hdr.mono (Nat.le_of_lt (lt_of_block hlk.out)))
    have HMB : Hid (wr.heap.size < (w1.drewN nq).heap.size) := lt_of_block HZ2.out
    have p0 := (cells_at HZ2.out 0).trans (show _ = some (Value.int .i64 (p.p : Int)) from rfl)
    clear hdr hsm c2 x0 HE2 HZ1 hlk hfr hpr hbel htr
    generalize (w1.drewN nq) = w2 at *
    have a20 := (cells_at HL2.out 20).trans (lkA_20 H16.out _ _ _ _)
    have hcap := own_le HP2.out
    have hsl : ∀ w : World, (Instr.sliceAt 69 (.slice (some ⟨g, o, none⟩) m ac) none (some (.int .i64 (k : Int))) none).run Tryz.prog w = .ok (.slice (some ⟨g, o, none⟩) k ac) w := fun w => run_subLh g o m ac k (by have := HK.out; omega) w
    have HCF := Lib.hid (cf_same_c (some ⟨g, o, none⟩) k ac (A.take k) (by rw [List.length_take, HAL.out]; have := HK.out; omega) (by have := HK.out; have := HM.out; omega) wr.heap.size p.q w2 ((pls_of_own HP2.out).take k) ((cells_at HZ2.out 2).trans rfl) HMB.out)
    obtain ⟨bb, hbb⟩ : ∃ bb, bb = (A.take k).any (fun y => y.q == p.q) := ⟨_, rfl⟩
    rw [<- hbb] at HCF HS8
    clear hbb hcap
    go_wp2_with fail
    refine HCF.out.mono ?_
    rintro e w4 ⟨rfl, hb4⟩
    have HL4 := Lib.hid ((hb4.block _ (lt_of_block HL2.out)).trans HL2.out)
    have HF4 := Lib.hid (own_up HF2.out hb4)
    have HP4 := Lib.hid (own_up HP2.out hb4)
    have HT4 := Lib.hid ((hb4.block _ (lt_of_block HT2.out)).trans HT2.out)
    have HE4 : Hid (Below lk w w4) := HE3.out.trans (hb4.mono (Nat.le_of_lt (lt_of_block HL2.out)))
    have HZ4 := Lib.hid ((hb4.block _ (lt_of_block HZ2.out)).trans HZ2.out)
    have q0 := (cells_at HZ4.out 0).trans (show _ = some (Value.int .i64 (p.p : Int)) from rfl)
    clear hb4 p0 a20 hsl HCF
    cases bb with
    | true =>
     have hs9 := HS8.out
     rw [if_pos rfl] at hs9
     have HS9 := Lib.hid hs9
     clear hs9 HS8
     have HWR := Lib.hid (lwrong_c (lk + 1) lk x (Nat.lt_succ_self lk) R H16.out _ _ fw _ (n0 + (sersK A x k).length) (F0 ++ sersK A x k) (by have := HLEN.out; have := HM.out; have := HK.out; have := HN0.out; omega) 3 (p.p : Int) w4 HL4.out (lt_of_block HL4.out) HF4.out)
     go_wp2_with fail
     refine HWR.out.mono ?_
     rintro e w5 ⟨⟨u, rfl⟩, fv5, hl5, ho5, hb5, hq5⟩
     have HP5 := Lib.hid (own_keep HP4.out (fun q e => hq5 q (own_lt HP4.out e) (by have := own_base HP4.out q e; omega) (own_apart HF4.out HP4.out q e)))
     have HT5 := Lib.hid ((hq5 tb (lt_of_block HT4.out) HTT.out.2 (own_apart_tb HF4.out HT4.out HTT.out.1)).trans HT4.out)
     have HL5 := Lib.hid hl5
     have HF5 : Hid (w5.ownsRow (lk + 1) 67 2 fv5 (n0 + (sersK A x (k + 1)).length) (cellsF (F0 ++ sersK A x (k + 1)))) := by
      show World.ownsRow _ _ _ _ _ _ _
      rw [HS9.out, List.length_append, <- List.append_assoc, <- Nat.add_assoc]; exact ho5
     have HE5 : Hid (Below lk w w5) := HE4.out.trans hb5
     clear hl5 ho5 hb5 hq5 HWR
     go_wp2
     go_roundw
     case rel => exact ⟨k + 1, by have := HK.out; omega, by go_num, fv5, HL5.out, HF5.out, HP5.out, HE5.out, HT5.out⟩
     case measure => simp [RowKit.intOf]; have := HK.out; omega
    | false =>
     have hs9 := HS8.out
     rw [if_neg (by simp), List.append_nil] at hs9
     have HS9 := Lib.hid hs9
     clear hs9 HS8
     go_wp2
     go_roundw
     case rel => exact ⟨k + 1, by have := HK.out; omega, by go_num, fw, HL4.out, by rw [HS9.out]; exact HF4.out, HP4.out, HE4.out, HT4.out⟩
     case measure => simp [RowKit.intOf]; have := HK.out; omega
  ·have hd : decide ((k : Int) < (m : Int)) = false := by simp; omega
   have dl : ¬ (k : Int) < (m : Int) := by omega
   have hkm : k = m := by omega
   subst hkm
   go_wp2
   refine bodyPost_end (results_none rfl _ _ _) rfl ?_
   exact ⟨⟨_, rfl⟩, fw, hlk.out, hfr.out, hpr.out, hbel.out, htr.out⟩
end Go.Proofs.YtpbmjfjnmcpieaaGreat
namespace Go.Proofs.YtpbmjfjnmcpieaaGreat
open Go Go.RowKit
theorem cells_same {w : World} {b : Nat} {A : Array Value} {t : TypeId} (h : w.heap[b]? = some (.cells A t (0, 0))) (n : Nat) : (w.drewN n).heap[b]? = some (.cells A t (0, 0)) :=
 ((below_drewG (Below.refl w.heap.size w) n).block _ (lt_of_block h)).trans h
def eqPl (v p : Pl) : Bool := v.p == p.p && v.s == p.s && v.q == p.q
theorem ix_pl_c (a : Option Addr) (n cap : Nat) (L : List Pl) (hn : L.length = n) (hnm : n <= 1000000) (v : Pl) (w : World) (hR : PlsAt w a L) :
  Calls Tryz.prog 81 #[.slice a n cap, .agg (plB v)] w fun e w' => (∃ r : Int, e = .returned (.int .i64 r) /\ decide (r >= 0) = L.any (eqPl v)) /\ Below w.heap.size w w' := by
 have HR := Lib.hid hR
 have HN := Lib.hid hn
 have HNM := Lib.hid hnm
 have HBX : Hid ((w.alloc (.cells (plB v) 106)).heap[w.heap.size]? = some (.cells (plB v) 106 (0, 0))) := heap_new' _ _
 have HBE : Hid (Below w.heap.size w (w.alloc (.cells (plB v) 106))) := below_box _ _
 clear hR hn hnm
 go_enter Tryz.func81, Tryz.ntmps81
 go_wp2
 generalize (w.alloc (.cells (plB v) 106)) = w0 at *
 go_loopw [8] (fun vi wr => ∃ k : Nat, k <= n /\ vi = .int .i64 (k : Int) /\ Hid ((L.take k).any (eqPl v) = false) /\ Hid (wr.heap[w.heap.size]? = some (.cells (plB v) 106 (0, 0))) /\ Hid (Below w.heap.size w wr)) (fun vi _ => n - (intOf vi).toNat)
 case atStart => exact ⟨0, by omega, rfl, rfl, HBX.out, HBE.out⟩
 case round =>
  clear HBX HBE
  obtain ⟨k, hk, rfl, hall, hbx, hbel⟩ := hrel
  by_cases hlt : k < n
  ·have hd : decide ((k : Int) < (n : Int)) = true := by simp; omega
   have dl : (k : Int) < (n : Int) := by omega
   have d0 : ¬ (k : Int) < 0 := by omega
   have hkl : k < L.length := by rw [HN.out]; exact hlt
   have hget := List.getElem?_eq_getElem hkl
   obtain ⟨p, hp⟩ : ∃ p, p = L[k] := ⟨_, rfl⟩
   rw [<- hp] at hget
   obtain ⟨g, o, rfl, hg, hcell⟩ := HR.out k p hget
   have hc : ∀ j u, (plB p).toList[j]? = some u -> wr.cell? ⟨g, o + k * 3 + j, none⟩ = some u := fun j u hu => (hbel.out.cell (p := ⟨g, o + k * 3 + j, none⟩) hg).trans (hcell j u hu)
   have e0 : wr.cell? ⟨g, o + k * 3, none⟩ = some (.int .i64 (p.p : Int)) := hc 0 _ rfl
   have e1 : wr.cell? ⟨g, o + k * 3 + 1, none⟩ = some (.int .i64 (p.s : Int)) := hc 1 _ rfl
   have e2 : wr.cell? ⟨g, o + k * 3 + 2, none⟩ = some (.int .u64 (p.q : Int)) := hc 2 _ rfl
   have b0 := (cells_at hbx.out 0).trans (show _ = some (Value.int .i64 (v.p : Int)) from rfl)
   have b1 := (cells_at hbx.out 1).trans (show _ = some (Value.int .i64 (v.s : Int)) from rfl)
   have b2 := (cells_at hbx.out 2).trans (show _ = some (Value.int .u64 (v.q : Int)) from rfl)
   have HG := Lib.hid hget
   have HK := Lib.hid hlt
   have ek : IntKind.i64.wrap ((k : Int) + 1) = (k : Int) + 1 := by have := HNM.out; exact IntWalk.i64_in _ (by omega)
   have HT0 : Hid (eqPl v p = false -> (L.take (k + 1)).any (eqPl v) = false) := fun ht => any_snoc L _ k p hget hall.out ht
   have HT1 : Hid (eqPl v p = true -> L.any (eqPl v) = true) := fun ht => any_at L _ k p hget ht
   have HEQ : Hid (eqPl v p = (v.p == p.p && v.s == p.s && v.q == p.q)) := rfl
   clear hget hp hkl hg hcell hc hk hlt hall HR
   obtain ⟨vp, hvp⟩ : ∃ x, x = v.p := ⟨_, rfl⟩
   obtain ⟨vs, hvs⟩ : ∃ x, x = v.s := ⟨_, rfl⟩
   obtain ⟨vq, hvq⟩ : ∃ x, x = v.q := ⟨_, rfl⟩
   obtain ⟨pp, hpp⟩ : ∃ x, x = p.p := ⟨_, rfl⟩
   obtain ⟨ps, hps⟩ : ∃ x, x = p.s := ⟨_, rfl⟩
   obtain ⟨pq, hpq⟩ : ∃ x, x = p.q := ⟨_, rfl⟩
   rw [<- hvp, <- hvs, <- hvq, <- hpp, <- hps, <- hpq] at HEQ
   rw [<- hvp] at b0
   rw [<- hvs] at b1
   rw [<- hvq] at b2
   rw [<- hpp] at e0
   rw [<- hps] at e1
   rw [<- hpq] at e2
   clear hvp hvs hvq hpp hps hpq
   have hno : eqPl v p = false -> vp ≠ pp \/ (vp = pp /\ vs ≠ ps) \/ (vp = pp /\ vs = ps /\ vq ≠ pq) := by
    intro h
    rw [HEQ.out] at h
    by_cases h1 : vp = pp
    ·by_cases h2 : vs = ps
     ·by_cases h3 : vq = pq
      ·subst h1 h2 h3; simp at h
      ·exact .inr (.inr ⟨h1, h2, h3⟩)
     ·exact .inr (.inl ⟨h1, h2⟩)
    ·exact .inl h1
   cases ht : eqPl v p with
   | false =>
    have HT := Lib.hid (HT0.out ht)
    have hcs := hno ht
    clear HT0 HT1 HEQ hno ht
    rcases hcs with h1 | ⟨h1, h2⟩ | ⟨h1, h2, h3⟩
    ·have i1 : ¬ (vp : Int) = (pp : Int) := by omega
     clear h1
     go_wp2
     go_quiet (fail)
     go_wp2
     go_roundw
     case rel => exact ⟨k + 1, by have := HK.out; omega, by go_num, HT.out, (cells_same hbx.out _), below_drewG hbel.out _⟩
     case measure => simp [intOf]; have := HK.out; omega
    ·subst h1
     have i1 : ¬ (vs : Int) = (ps : Int) := by omega
     clear h2
     go_wp2
     go_quiet (fail)
     go_wp2
     go_roundw
     case rel => exact ⟨k + 1, by have := HK.out; omega, by go_num, HT.out, (cells_same hbx.out _), below_drewG hbel.out _⟩
     case measure => simp [intOf]; have := HK.out; omega
    ·subst h1 h2
     have i1 : ¬ (vq : Int) = (pq : Int) := by omega
     clear h3
     go_wp2
     go_quiet (fail)
     go_wp2
     go_roundw
     case rel => exact ⟨k + 1, by have := HK.out; omega, by go_num, HT.out, (cells_same hbx.out _), below_drewG hbel.out _⟩
     case measure => simp [intOf]; have := HK.out; omega
   | true =>
    have HT := Lib.hid (HT1.out ht)
    have hyes : vp = pp /\ vs = ps /\ vq = pq := by
     have h := HEQ.out
     rw [ht] at h
     simp only [Bool.true_eq, Bool.and_eq_true, beq_iff_eq] at h
     exact ⟨h.1.1, h.1.2, h.2⟩
    obtain ⟨rfl, rfl, rfl⟩ := hyes
    clear HT0 HT1 HEQ hno ht
    go_wp2
    go_quiet (fail)
    go_wp2
    go_ret
    exact ⟨⟨_, rfl, by rw [HT.out]; simp⟩, below_drewG hbel.out _⟩
  ·have hkn : k = n := by omega
   have hd : decide ((k : Int) < (n : Int)) = false := by simp; omega
   have dl : ¬ (k : Int) < (n : Int) := by omega
   have HT : Hid (L.any (eqPl v) = false) := by
    have h := hall.out
    rw [List.take_of_length_le (by rw [HN.out]; omega)] at h; exact h
   clear hall hkn hk hlt
   go_wp2
   go_ret
   exact ⟨⟨_, rfl, by rw [HT.out]; decide⟩, hbel.out⟩
theorem contains_pl_c (a : Option Addr) (n cap : Nat) (L : List Pl) (hn : L.length = n) (hnm : n <= 1000000) (v : Pl) (w : World) (hR : PlsAt w a L) :
  Calls Tryz.prog 52 #[.slice a n cap, .agg (plB v)] w fun e w' => e = .returned (.bool (L.any (eqPl v))) /\ Below w.heap.size w w' := by
 have HBX : Hid ((w.alloc (.cells (plB v) 106)).heap[w.heap.size]? = some (.cells (plB v) 106 (0, 0))) := heap_new' _ _
 have HBE : Hid (Below w.heap.size w (w.alloc (.cells (plB v) 106))) := below_box _ _
 have HC := Lib.hid (ix_pl_c a n cap L hn hnm v (w.alloc (.cells (plB v) 106)) (hR.up HBE.out (Nat.le_refl _)))
 clear hR hn hnm
 go_enter Tryz.func52, Tryz.ntmps52
 go_wp2_with (first
  | (refine wpList_load_row rfl 106 (.tmp 3) rfl w.heap.size rfl _ _ _ _ HBX.out Tryz.underlying106 rfl (by rw [place3]; rfl) ?_)
  | fail)
 refine HC.out.mono ?_
 rintro e w1 ⟨⟨r, rfl, hr⟩, hb1⟩
 have HE1 : Hid (Below w.heap.size w w1) := HBE.out.trans (hb1.mono HBE.out.size)
 clear hb1 HC HBX HBE
 go_wp2
 go_ret
 first
  | exact ⟨by rw [<- hr]; rfl, HE1.out⟩
  | (simp only [ge_iff_le] at hr; exact ⟨by rw [<- hr]; rfl, HE1.out⟩)
end Go.Proofs.YtpbmjfjnmcpieaaGreat
namespace Go.Proofs.YtpbmjfjnmcpieaaGreat
open Go Go.RowKit
/-- the place that a handle names -/
def plOf (h : Nat) : Pl := if hOK h then ⟨hPage h, hSlot h, hSer h⟩ else ⟨0, 0, 0⟩
theorem hres_pl (h : Nat) : hRes (hOK h) (hPage h) (hSlot h) (hSer h) = .tuple #[.agg (plB (plOf h)), .bool (hOK h)] := by
 unfold hRes plOf
 cases hOK h <;> rfl
def rtK (A : List Pl) (R : List Nat) (k : Nat) : List Ft :=
 if R.getD k 0 = 0 then [] else if A.any (eqPl (plOf (R.getD k 0))) then [] else [⟨1, k⟩]
def rtsK (A : List Pl) (R : List Nat) : Nat -> List Ft
 | 0 => []
 | k + 1 => rtsK A R k ++ rtK A R k
theorem rtsK_len (A : List Pl) (R : List Nat) : ∀ k, (rtsK A R k).length <= k
 | 0 => Nat.le_refl _
 | k + 1 => by
  have h := rtsK_len A R k
  have h1 : (rtK A R k).length <= 1 := by
   unfold rtK
   split
   ·simp
   ·split <;> simp
  unfold rtsK
  rw [List.length_append]; omega
theorem lroots3_c (lk x : Nat) (R : List Nat) (h16 : R.length = 16) (hRl : ∀ r ∈ R, r < 18446744073709551616) (pv qv fv : Value) (aa : Option Addr) (m ac : Nat) (A : List Pl) (hA : A.length = m) (hm : m <= 1100) (n0 : Nat) (F0 : List Ft) (hn0 : n0 <= 1200) (w : World) (h : LkAt w lk x R pv qv fv (.slice aa m ac)) (hf : w.ownsRow (lk + 1) 67 2 fv n0 (cellsF F0)) (hp : w.ownsRow (lk + 1) 106 3 (.slice aa m ac) m (cellsL A)) (tb : Nat) (TT : Array Value) (tt : TypeId) (htt : tt ≠ 67) (htl : tb ≠ lk) (ht : w.heap[tb]? = some (.cells TT tt (0, 0))) :
  Calls Tryz.prog 26 #[.pointer (some ⟨lk, 0, none⟩)] w fun e w' => (∃ u, e = .returned u) /\ ∃ fv', LkAt w' lk x R pv qv fv' (.slice aa m ac) /\ w'.ownsRow (lk + 1) 67 2 fv' (n0 + (rtsK A R 16).length) (cellsF (F0 ++ rtsK A R 16)) /\ w'.ownsRow (lk + 1) 106 3 (.slice aa m ac) m (cellsL A) /\ Below lk w w' /\ w'.heap[tb]? = some (.cells TT tt (0, 0)) := by
 have HC : Hid (w.rangeAt lk 1 (R.map fun (k : Nat) => Value.int .u64 (k : Int))) := fun j u hu => (cells_at h (1 + j)).trans (lkA_R h16 _ _ _ _ j u hu)
 have hcl : (R.map fun (k : Nat) => Value.int .u64 (k : Int)).length = 16 := by rw [List.length_map, h16]
 have HCL := Lib.hid hcl
 have HL0 := Lib.hid h
 have HF0 := Lib.hid hf
 have HP0 := Lib.hid hp
 have HT0 := Lib.hid ht
 have HTT := Lib.hid (And.intro htt htl)
 have H16 := Lib.hid h16
 have HRL := Lib.hid hRl
 have HAL := Lib.hid hA
 have HM := Lib.hid hm
 have HN0 := Lib.hid hn0
 clear h hf hp ht htt htl h16 hA hm hn0 hcl hRl
 go_enter Tryz.func26, Tryz.ntmps26
 go_wp2_with (first
  | (refine wpList_load_mid rfl 58 (.tmp 10) rfl lk 1 rfl _ _ HC.out Tryz.underlying58 rfl (by rw [HCL.out]; kernel_rfl) ?_)
  | fail)
 clear HC
 go_loopw [12] (fun vi wr => ∃ k : Nat, k <= 16 /\ vi = .int .i64 (k : Int) /\ ∃ fw, Hid (LkAt wr lk x R pv qv fw (.slice aa m ac)) /\ Hid (wr.ownsRow (lk + 1) 67 2 fw (n0 + (rtsK A R k).length) (cellsF (F0 ++ rtsK A R k))) /\ Hid (wr.ownsRow (lk + 1) 106 3 (.slice aa m ac) m (cellsL A)) /\ Hid (Below lk w wr) /\ Hid (wr.heap[tb]? = some (.cells TT tt (0, 0)))) (fun vi _ => 16 - (intOf vi).toNat)
 case atStart => exact ⟨0, by omega, rfl, fv, HL0.out, by show World.ownsRow _ _ _ _ _ _ _; rw [show rtsK A R 0 = [] from rfl, List.append_nil]; exact HF0.out, HP0.out, Below.refl _ _, HT0.out⟩
 case round =>
  obtain ⟨k, hk, rfl, fw, hlk, hfr, hpr, hbel, htr⟩ := hrel
  by_cases hlt : k < 16
  ·have hd : decide ((k : Int) < 16) = true := by simp; omega
   have dl : (k : Int) < 16 := by omega
   have d0 : ¬ (k : Int) < 0 := by omega
   have hidx := fun w => index_H R H16.out k hlt w
   obtain ⟨h, hh⟩ : ∃ h, h = R.getD k 0 := ⟨_, rfl⟩
   have hlt64 : h < 18446744073709551616 := by
    rw [hh, List.getD_eq_getElem?_getD, List.getElem?_eq_getElem (by rw [H16.out]; exact hlt)]
    exact HRL.out _ (List.getElem_mem _)
   rw [<- hh] at hidx
   have hss : rtsK A R (k + 1) = rtsK A R k ++ (if h = 0 then [] else if A.any (eqPl (plOf h)) then [] else [⟨1, (k : Int)⟩]) := by
    show rtsK A R k ++ rtK A R k = _
    unfold rtK; rw [<- hh]
   have HSS := Lib.hid hss
   have HPL := Lib.hid (hplace_c h hlt64 wr)
   rw [hres_pl] at HPL
   have HK := Lib.hid hlt
   have HLEN := Lib.hid (rtsK_len A R k)
   have ek : IntKind.i64.wrap ((k : Int) + 1) = (k : Int) + 1 := IntWalk.i64_in _ (by omega)
   obtain ⟨pl, hpl⟩ : ∃ pl, pl = plOf h := ⟨_, rfl⟩
   obtain ⟨ok, hok⟩ : ∃ ok, ok = hOK h := ⟨_, rfl⟩
   rw [<- hpl] at HPL HSS
   rw [<- hok] at HPL
   clear hss hlt hk hlt64 hh hpl hok
   go_wp2_with fail
   refine HPL.out.mono ?_
   rintro e w1 ⟨rfl, hb1⟩
   have HZ : Hid ((w1.alloc (.cells #[.int .i64 0, .int .i64 0, .int .u64 0] 106)).heap[w1.heap.size]? = some (.cells (plB ⟨0, 0, 0⟩) 106 (0, 0))) := heap_new' _ _
   have HB1 : Hid (Below wr.heap.size wr w1) := hb1
   have HE2 : Hid (Below wr.heap.size wr (w1.alloc (.cells #[.int .i64 0, .int .i64 0, .int .u64 0] 106))) := hb1.trans ((below_box w1 _).mono hb1.size)
   clear hb1 hidx HPL
   go_wp2_with (first
    | (refine wpList_store_row rfl 106 (.tmp 4) (.tmp 19) rfl w1.heap.size (plB pl) rfl rfl 106 _ HZ.out (by rw [place3]; rfl) rfl (plB_one _) ?_; generalize hW1 : World.setRow _ _ _ = w2; have HZ2 : Hid (w2.heap[w1.heap.size]? = some (.cells (plB pl) 106 (0, 0))) := (by show _ = _; rw [<- hW1]; exact setRow_heap _ _ _ _ _ _ HZ.out); have HE3 : Hid (Below wr.heap.size wr w2) := (by rw [<- hW1]; exact below_setRow HE2.out HB1.out.size _); clear hW1)
    | fail)
   have HL2 := Lib.hid ((HE3.out.block _ (lt_of_block hlk.out)).trans hlk.out)
   have HF2 := Lib.hid (own_up hfr.out HE3.out)
   have HP2 := Lib.hid (own_up hpr.out HE3.out)
   have HT2 := Lib.hid ((HE3.out.block _ (lt_of_block htr.out)).trans htr.out)
   have HW2 : Hid (Below lk w w2) := hbel.out.trans (HE3.out.mono (Nat.le_of_lt (lt_of_block hlk.out)))
   clear hlk hfr hpr hbel htr HE3 HE2 HZ HB1
   by_cases h0 : h = 0
   ·subst h0
    have hs9 := HSS.out
    rw [if_pos rfl, List.append_nil] at hs9
    have HS9 := Lib.hid hs9
    clear hs9 HSS
    go_quiet (fail)
    have hsm : Below w2.heap.size w2 (w2.drewN nq) := below_drewG (Below.refl _ _) _
    have HL3 := Lib.hid ((hsm.block _ (lt_of_block HL2.out)).trans HL2.out)
    have HF3 := Lib.hid (own_up HF2.out hsm)
    have HP3 := Lib.hid (own_up HP2.out hsm)
    have HT3 := Lib.hid ((hsm.block _ (lt_of_block HT2.out)).trans HT2.out)
    have HW3 : Hid (Below lk w (w2.drewN nq)) := below_drewG HW2.out _
    clear hsm
    generalize (w2.drewN nq) = w3 at *
    go_wp2
    go_roundw
    case rel => exact ⟨k + 1, by have := HK.out; omega, by go_num, fw, HL3.out, by rw [HS9.out]; exact HF3.out, HP3.out, HW3.out, HT3.out⟩
    case measure => simp [intOf]; have := HK.out; omega
   ·have hs9 := HSS.out
    rw [if_neg h0] at hs9
    have HS8 := Lib.hid hs9
    have n1 : ((h : Int) == 0) = false := by simp; omega
    have n2 : ¬ (h : Int) = 0 := by omega
    have n3 : ((h : Int) != 0) = true := by simp; omega
    obtain ⟨S, f, hne, h1, h2⟩ := bclass w2
    have c20 : ∀ s, (f s).cell? ⟨lk, 20, none⟩ = some (.slice aa m ac) := fun s => (cells_at (((h1 s).block _ (lt_of_block HL2.out)).trans HL2.out) 20).trans (lkA_20 H16.out _ _ _ _)
    have HK2 : Hid (∀ s', (f s').heap[w1.heap.size]? = some (.cells (plB pl) 106 (0, 0))) := fun s' => ((h1 s').block _ (lt_of_block HZ2.out)).trans HZ2.out
    have H1 := Lib.hid h1
    have H2 := Lib.hid h2
    obtain ⟨bb, hbb⟩ : ∃ bb, bb = A.any (eqPl pl) := ⟨_, rfl⟩
    have M1 : Hid (∀ y : S, Calls Tryz.prog 52 #[.slice aa m ac, .agg (plB pl)] (f y) fun e w' => e = .returned (.bool bb) /\ ∃ s', w' = f s') := fun y => bcall h1 h2 (by rw [hbb]; exact contains_pl_c aa m ac A HAL.out (by have := HM.out; omega) pl (f y) ((pls_of_own HP2.out).up (h1 y) (Nat.le_refl _)))
    rw [<- hbb] at HS8
    clear h1 h2 hs9 HSS h0 hbb
    refine wp_region_quiet (C := fun w' => ∃ s, w' = f s) (by kernel_rfl) (by kernel_rfl) (H2.out _ (Below.refl _ _).drew) ?_
    simp only
    repeat first | (refine quiet_load_rowG rfl 106 (.tmp 4) rfl w1.heap.size rfl 106 (plB pl) (0, 0) _ (by rintro _ ⟨x, rfl⟩; exact HK2.out x) Tryz.underlying106 rfl (by rw [place3]; rfl) ?_; simp only [Act.put, List.setIfInBounds_toArray, List.set_cons_succ, List.set_cons_zero]) | go_big_quiet_step ((with_reducible first | exact M1.out _))
    refine wpQuiet_nil ?_
    rintro _ ⟨s0, rfl⟩
    have hsm := H1.out s0
    have HL3 := Lib.hid ((hsm.block _ (lt_of_block HL2.out)).trans HL2.out)
    have HF3 := Lib.hid (own_up HF2.out hsm)
    have HP3 := Lib.hid (own_up HP2.out hsm)
    have HT3 := Lib.hid ((hsm.block _ (lt_of_block HT2.out)).trans HT2.out)
    have HW3 : Hid (Below lk w (f s0)) := HW2.out.trans (hsm.mono (Nat.le_of_lt (lt_of_block HL2.out)))
    clear hsm c20 HK2 H1 H2 M1 n1 n2 n3
    generalize f s0 = w3 at *
    cases bb with
    | true =>
     have hs9 := HS8.out
     rw [if_pos rfl, List.append_nil] at hs9
     have HS9 := Lib.hid hs9
     clear hs9 HS8
     go_wp2
     go_roundw
     case rel => exact ⟨k + 1, by have := HK.out; omega, by go_num, fw, HL3.out, by rw [HS9.out]; exact HF3.out, HP3.out, HW3.out, HT3.out⟩
     case measure => simp [intOf]; have := HK.out; omega
    | false =>
     have hs9 := HS8.out
     rw [if_neg (by simp)] at hs9
     have HS9 := Lib.hid hs9
     clear hs9 HS8
     have HWR := Lib.hid (lwrong_c (lk + 1) lk x (Nat.lt_succ_self lk) R H16.out _ _ fw _ (n0 + (rtsK A R k).length) (F0 ++ rtsK A R k) (by have := HLEN.out; have := HK.out; have := HN0.out; omega) 1 (k : Int) w3 HL3.out (lt_of_block HL3.out) HF3.out)
     go_wp2_with fail
     refine HWR.out.mono ?_
     rintro e w5 ⟨⟨u, rfl⟩, fv5, hl5, ho5, hb5, hq5⟩
     have HP5 := Lib.hid (own_keep HP3.out (fun q e => hq5 q (own_lt HP3.out e) (by have := own_base HP3.out q e; omega) (own_apart HF3.out HP3.out q e)))
     have HT5 := Lib.hid ((hq5 tb (lt_of_block HT3.out) HTT.out.2 (own_apart_tb HF3.out HT3.out HTT.out.1)).trans HT3.out)
     have HL5 := Lib.hid hl5
     have HF5 : Hid (w5.ownsRow (lk + 1) 67 2 fv5 (n0 + (rtsK A R (k + 1)).length) (cellsF (F0 ++ rtsK A R (k + 1)))) := by
      show World.ownsRow _ _ _ _ _ _ _
      rw [HS9.out, List.length_append, <- List.append_assoc, <- Nat.add_assoc]; exact ho5
     have HE5 : Hid (Below lk w w5) := HW3.out.trans hb5
     clear hl5 ho5 hb5 hq5 HWR
     go_wp2
     go_roundw
     case rel => exact ⟨k + 1, by have := HK.out; omega, by go_num, fv5, HL5.out, HF5.out, HP5.out, HE5.out, HT5.out⟩
     case measure => simp [intOf]; have := HK.out; omega
  ·have hd : decide ((k : Int) < 16) = false := by simp; omega
   have dl : ¬ (k : Int) < 16 := by omega
   have hkm : k = 16 := by omega
   subst hkm
   go_wp2
   refine bodyPost_end (results_none rfl _ _ _) rfl ?_
   exact ⟨⟨_, rfl⟩, fw, hlk.out, hfr.out, hpr.out, hbel.out, htr.out⟩
end Go.Proofs.YtpbmjfjnmcpieaaGreat
namespace Go.Proofs.YtpbmjfjnmcpieaaGreat
open Go Go.RowKit
theorem run_build_pl2 {w : World} (E : Operand -> Value) (o : Oper) (x : Operand) (ho : o.op = .buildSlice 69 1 #[(0, x)]) {p : Pl} (hx : E x = .agg (plB p)) :
  (execOp E o).run Tryz.prog w = .ok (.value (.slice (some ⟨w.heap.size, 0, none⟩) 1 1)) (w.alloc (.cells (plB p) 106)) := by
 obtain ⟨i0, hi, hh⟩ := Option.map_eq_some_iff.1 plinfo
 simp only [Prod.mk.injEq] at hh
 unfold execOp
 simp only [ho, Sem.run_bind]
 rw [run_buildSlice w 69 106 1 _ (plB p) i0 _ Tryz.underlying69 hi hh.1 (by rw [hh.2.1]; decide) (by rw [hh.2.1]; decide) (by
  rw [hh.2.1]
  rw [show (Array.map (fun x : Nat × Operand => match x with | (i, x) => (i, E x)) #[(0, x)]).toList = [(0, E x)] by simp, hx]
  exact fillL_any p _ (by simp [plB, Value.cells]))]
 rfl
def opsFD : {o : Array Oper // some o = (Tryz.f24.body.bind (Fre.findR 5))} := ⟨_, rfl⟩
theorem fitFD : Fre.fit .any opsFD.1 76 = true := by kernel_rfl
theorem sizeFD : opsFD.1.size = 14 := by kernel_rfl
theorem tailFD : Fre.lateFitT .any opsFD.1 10 0 = true := by kernel_rfl
def VFD (lk pb k : Nat) (av : Value) (p : Pg) (B : Nat) (i : Nat) (v : Value) (w : World) : Prop := match i with
 | 0 => v = .pointer (some ⟨lk, 0, none⟩)
 | 1 => v = .pointer (some ⟨lk, 0, none⟩)
 | 2 => v = .pointer (some ⟨lk, 0, none⟩)
 | 3 => v = .pointer (some ⟨lk, 20, none⟩)
 | 4 => v = av
 | 5 => v = .int .i64 (k : Int)
 | 6 => v = .pointer (some ⟨pb, 4, none⟩)
 | 7 => v = .int .u64 (p.ser : Int)
 | 8 => v = .agg (plB ⟨k, 0, p.ser⟩)
 | 9 => ∃ b, v = .slice (some ⟨b, 0, none⟩) 1 1 /\ B <= b /\ w.heap[b]? = some (.cells (plB ⟨k, 0, p.ser⟩) 106 (0, 0))
 | _ => True
theorem stFD_0 (lk pb k : Nat) (av : Value) (p : Pg) (B : Nat) (a0 : Act) (g90 : a0.tmps.getD 0 undef = .pointer (some ⟨lk, 0, none⟩)) (w0 : World) (h0 : w0.cell? ⟨lk, 20, none⟩ = some av) (hlk : lk < w0.heap.size) (h1 : w0.heap[pb]? = some (.cells (pgA p) 100 (0, 0))) (hB : B <= w0.heap.size) : Fre.StepB Tryz.prog opsFD.1 a0 w0 (VFD lk pb k av p B) Fre.Kept 0 := by
 intro E w hc hf hE hV hN hS o ho
 obtain rfl := Option.some.inj ho
 clear ho
 simp only [opsFD, List.getElem_toArray, List.getElem_cons_succ, List.getElem_cons_zero]
 have b0 : E (.tmp 0) = .pointer (some ⟨lk, 0, none⟩) := (hE 0 (by kernel_rfl)).trans g90
 clear g90
 refine Fre.Does.value (v := .pointer (some ⟨lk, 0, none⟩)) (w' := w) ?_ ⟨rfl, Fre.Kept.refl _⟩
 go_simp
theorem stFD_1 (lk pb k : Nat) (av : Value) (p : Pg) (B : Nat) (a0 : Act) (g90 : a0.tmps.getD 0 undef = .pointer (some ⟨lk, 0, none⟩)) (w0 : World) (h0 : w0.cell? ⟨lk, 20, none⟩ = some av) (hlk : lk < w0.heap.size) (h1 : w0.heap[pb]? = some (.cells (pgA p) 100 (0, 0))) (hB : B <= w0.heap.size) : Fre.StepB Tryz.prog opsFD.1 a0 w0 (VFD lk pb k av p B) Fre.Kept 1 := by
 intro E w hc hf hE hV hN hS o ho
 obtain rfl := Option.some.inj ho
 clear ho
 simp only [opsFD, List.getElem_toArray, List.getElem_cons_succ, List.getElem_cons_zero]
 have b0 : E (.tmp 0) = .pointer (some ⟨lk, 0, none⟩) := (hE 0 (by kernel_rfl)).trans g90
 clear g90
 refine Fre.Does.value (v := .pointer (some ⟨lk, 0, none⟩)) (w' := w) ?_ ⟨rfl, Fre.Kept.refl _⟩
 go_simp
theorem stFD_2 (lk pb k : Nat) (av : Value) (p : Pg) (B : Nat) (a0 : Act)  (w0 : World) (h0 : w0.cell? ⟨lk, 20, none⟩ = some av) (hlk : lk < w0.heap.size) (h1 : w0.heap[pb]? = some (.cells (pgA p) 100 (0, 0))) (hB : B <= w0.heap.size) : Fre.StepB Tryz.prog opsFD.1 a0 w0 (VFD lk pb k av p B) Fre.Kept 2 := by
 intro E w hc hf hE hV hN hS o ho
 obtain rfl := Option.some.inj ho
 clear ho
 simp only [opsFD, List.getElem_toArray, List.getElem_cons_succ, List.getElem_cons_zero]
 have d1 := hV 1 24 (by kernel_rfl) (by kernel_rfl)
 have d1 : E (.tmp 24) = .pointer (some ⟨lk, 0, none⟩) := d1
 refine Fre.Does.value (v := .pointer (some ⟨lk, 0, none⟩)) (w' := w) ?_ ⟨rfl, Fre.Kept.refl _⟩
 go_simp
theorem stFD_3 (lk pb k : Nat) (av : Value) (p : Pg) (B : Nat) (a0 : Act)  (w0 : World) (h0 : w0.cell? ⟨lk, 20, none⟩ = some av) (hlk : lk < w0.heap.size) (h1 : w0.heap[pb]? = some (.cells (pgA p) 100 (0, 0))) (hB : B <= w0.heap.size) : Fre.StepB Tryz.prog opsFD.1 a0 w0 (VFD lk pb k av p B) Fre.Kept 3 := by
 intro E w hc hf hE hV hN hS o ho
 obtain rfl := Option.some.inj ho
 clear ho
 simp only [opsFD, List.getElem_toArray, List.getElem_cons_succ, List.getElem_cons_zero]
 have d2 := hV 2 25 (by kernel_rfl) (by kernel_rfl)
 have d2 : E (.tmp 25) = .pointer (some ⟨lk, 0, none⟩) := d2
 refine Fre.Does.value (v := .pointer (some ⟨lk, 20, none⟩)) (w' := w) ?_ ⟨rfl, Fre.Kept.refl _⟩
 go_simp
theorem stFD_4 (lk pb k : Nat) (av : Value) (p : Pg) (B : Nat) (a0 : Act)  (w0 : World) (h0 : w0.cell? ⟨lk, 20, none⟩ = some av) (hlk : lk < w0.heap.size) (h1 : w0.heap[pb]? = some (.cells (pgA p) 100 (0, 0))) (hB : B <= w0.heap.size) : Fre.StepB Tryz.prog opsFD.1 a0 w0 (VFD lk pb k av p B) Fre.Kept 4 := by
 intro E w hc hf hE hV hN hS o ho
 obtain rfl := Option.some.inj ho
 clear ho
 simp only [opsFD, List.getElem_toArray, List.getElem_cons_succ, List.getElem_cons_zero]
 have d3 := hV 3 26 (by kernel_rfl) (by kernel_rfl)
 have d3 : E (.tmp 26) = .pointer (some ⟨lk, 20, none⟩) := d3
 have c0 : w.cell? ⟨lk, 20, none⟩ = some av := (hS.cell (p := ⟨lk, 20, none⟩) hlk).trans h0
 refine Fre.Does.value (v := av) (w' := w) ?_ ⟨rfl, Fre.Kept.refl _⟩
 go_simp
theorem stFD_5 (lk pb k : Nat) (av : Value) (p : Pg) (B : Nat) (a0 : Act) (g92 : a0.tmps.getD 2 undef = .int .i64 (k : Int)) (w0 : World) (h0 : w0.cell? ⟨lk, 20, none⟩ = some av) (hlk : lk < w0.heap.size) (h1 : w0.heap[pb]? = some (.cells (pgA p) 100 (0, 0))) (hB : B <= w0.heap.size) : Fre.StepB Tryz.prog opsFD.1 a0 w0 (VFD lk pb k av p B) Fre.Kept 5 := by
 intro E w hc hf hE hV hN hS o ho
 obtain rfl := Option.some.inj ho
 clear ho
 simp only [opsFD, List.getElem_toArray, List.getElem_cons_succ, List.getElem_cons_zero]
 have b2 : E (.tmp 2) = .int .i64 (k : Int) := (hE 2 (by kernel_rfl)).trans g92
 clear g92
 refine Fre.Does.value (v := .int .i64 (k : Int)) (w' := w) ?_ ⟨rfl, Fre.Kept.refl _⟩
 go_simp
theorem stFD_6 (lk pb k : Nat) (av : Value) (p : Pg) (B : Nat) (a0 : Act) (g93 : a0.tmps.getD 3 undef = .pointer (some ⟨pb, 0, none⟩)) (w0 : World) (h0 : w0.cell? ⟨lk, 20, none⟩ = some av) (hlk : lk < w0.heap.size) (h1 : w0.heap[pb]? = some (.cells (pgA p) 100 (0, 0))) (hB : B <= w0.heap.size) : Fre.StepB Tryz.prog opsFD.1 a0 w0 (VFD lk pb k av p B) Fre.Kept 6 := by
 intro E w hc hf hE hV hN hS o ho
 obtain rfl := Option.some.inj ho
 clear ho
 simp only [opsFD, List.getElem_toArray, List.getElem_cons_succ, List.getElem_cons_zero]
 have b3 : E (.tmp 3) = .pointer (some ⟨pb, 0, none⟩) := (hE 3 (by kernel_rfl)).trans g93
 clear g93
 refine Fre.Does.value (v := .pointer (some ⟨pb, 4, none⟩)) (w' := w) ?_ ⟨rfl, Fre.Kept.refl _⟩
 go_simp
theorem stFD_7 (lk pb k : Nat) (av : Value) (p : Pg) (B : Nat) (a0 : Act)  (w0 : World) (h0 : w0.cell? ⟨lk, 20, none⟩ = some av) (hlk : lk < w0.heap.size) (h1 : w0.heap[pb]? = some (.cells (pgA p) 100 (0, 0))) (hB : B <= w0.heap.size) : Fre.StepB Tryz.prog opsFD.1 a0 w0 (VFD lk pb k av p B) Fre.Kept 7 := by
 intro E w hc hf hE hV hN hS o ho
 obtain rfl := Option.some.inj ho
 clear ho
 simp only [opsFD, List.getElem_toArray, List.getElem_cons_succ, List.getElem_cons_zero]
 have d6 := hV 6 29 (by kernel_rfl) (by kernel_rfl)
 have d6 : E (.tmp 29) = .pointer (some ⟨pb, 4, none⟩) := d6
 have hb := (hS.block pb (lt_of_block h1)).trans h1
 have c0 := (cells_at hb 4).trans (show _ = some (Value.int .u64 (p.ser : Int)) from rfl)
 refine Fre.Does.value (v := .int .u64 (p.ser : Int)) (w' := w) ?_ ⟨rfl, Fre.Kept.refl _⟩
 go_simp
theorem stFD_8 (lk pb k : Nat) (av : Value) (p : Pg) (B : Nat) (a0 : Act)  (w0 : World) (h0 : w0.cell? ⟨lk, 20, none⟩ = some av) (hlk : lk < w0.heap.size) (h1 : w0.heap[pb]? = some (.cells (pgA p) 100 (0, 0))) (hB : B <= w0.heap.size) : Fre.StepB Tryz.prog opsFD.1 a0 w0 (VFD lk pb k av p B) Fre.Kept 8 := by
 intro E w hc hf hE hV hN hS o ho
 obtain rfl := Option.some.inj ho
 clear ho
 simp only [opsFD, List.getElem_toArray, List.getElem_cons_succ, List.getElem_cons_zero]
 have d5 := hV 5 28 (by kernel_rfl) (by kernel_rfl)
 have d5 : E (.tmp 28) = .int .i64 (k : Int) := d5
 have d7 := hV 7 30 (by kernel_rfl) (by kernel_rfl)
 have d7 : E (.tmp 30) = .int .u64 (p.ser : Int) := d7
 refine Fre.Does.value (v := .agg (plB ⟨k, 0, p.ser⟩)) (w' := w) ?_ ⟨rfl, Fre.Kept.refl _⟩
 unfold plB
 go_simp
theorem stFD_9 (lk pb k : Nat) (av : Value) (p : Pg) (B : Nat) (a0 : Act)  (w0 : World) (h0 : w0.cell? ⟨lk, 20, none⟩ = some av) (hlk : lk < w0.heap.size) (h1 : w0.heap[pb]? = some (.cells (pgA p) 100 (0, 0))) (hB : B <= w0.heap.size) : Fre.StepB Tryz.prog opsFD.1 a0 w0 (VFD lk pb k av p B) Fre.Kept 9 := by
 intro E w hc hf hE hV hN hS o ho
 obtain rfl := Option.some.inj ho
 clear ho
 simp only [opsFD, List.getElem_toArray, List.getElem_cons_succ, List.getElem_cons_zero]
 have d8 := hV 8 31 (by kernel_rfl) (by kernel_rfl)
 have d8 : E (.tmp 31) = .agg (plB ⟨k, 0, p.ser⟩) := d8
 exact Fre.Does.value (v := .slice (some ⟨w.heap.size, 0, none⟩) 1 1) (w' := w.alloc (.cells (plB ⟨k, 0, p.ser⟩) 106)) (run_build_pl2 E _ (.tmp 31) rfl d8) ⟨⟨_, rfl, Nat.le_trans hB hS.size, heap_new' _ _⟩, below_box _ _⟩
theorem kpFD (lk pb k : Nat) (av : Value) (p : Pg) (B : Nat) : ∀ j v w w', j < 10 -> VFD lk pb k av p B j v w -> Fre.Kept w w' -> VFD lk pb k av p B j v w' := by
 intro j v w w' hj h hs
 have hc : j = 0 \/ j = 1 \/ j = 2 \/ j = 3 \/ j = 4 \/ j = 5 \/ j = 6 \/ j = 7 \/ j = 8 \/ j = 9 := by omega
 rcases hc with rfl | rfl | rfl | rfl | rfl | rfl | rfl | rfl | rfl | rfl
 ·exact h
 ·exact h
 ·exact h
 ·exact h
 ·exact h
 ·exact h
 ·exact h
 ·exact h
 ·exact h
 ·change ∃ b, v = .slice (some ⟨b, 0, none⟩) 1 1 /\ B <= b /\ w.heap[b]? = some (.cells (plB ⟨k, 0, p.ser⟩) 106 (0, 0)) at h
  obtain ⟨b, h1, h2, h3⟩ := h
  exact ⟨b, h1, h2, (hs.block _ (lt_of_block h3)).trans h3⟩
section
variable {u1 u4 u5 u6 u7 u8 u9 u10 u11 u12 u13 u14 u15 u16 u17 u18 u19 u20 u21 u22 u23 u24 u25 u26 u27 u28 u29 u30 u31 u32 u33 u34 u35 u36 u37 u38 u39 u40 u41 u42 u43 u44 u45 u46 u47 u48 u49 u50 u51 u52 u53 u54 u55 u56 u57 u58 u59 u60 u61 u62 u63 u64 u65 u66 u67 u68 u69 u70 u71 u72 u73 u74 u75 : Value}
theorem finFD (lk pb k : Nat) (av : Value) (p : Pg) (B : Nat) (vs : Nat -> Value) : Fre.finT opsFD.1 vs #[.pointer (some ⟨lk, 0, none⟩), u1, .int .i64 (k : Int), .pointer (some ⟨pb, 0, none⟩), u4, u5, u6, u7, u8, u9, u10, u11, u12, u13, u14, u15, u16, u17, u18, u19, u20, u21, u22, u23, u24, u25, u26, u27, u28, u29, u30, u31, u32, u33, u34, u35, u36, u37, u38, u39, u40, u41, u42, u43, u44, u45, u46, u47, u48, u49, u50, u51, u52, u53, u54, u55, u56, u57, u58, u59, u60, u61, u62, u63, u64, u65, u66, u67, u68, u69, u70, u71, u72, u73, u74, u75] 10 = #[.pointer (some ⟨lk, 0, none⟩), u1, .int .i64 (k : Int), .pointer (some ⟨pb, 0, none⟩), u4, u5, u6, u7, u8, u9, u10, u11, u12, u13, u14, u15, u16, u17, u18, u19, u20, u21, u22, vs 0, vs 1, vs 2, vs 3, vs 4, vs 5, vs 6, vs 7, vs 8, vs 9, u33, u34, u35, u36, u37, u38, u39, u40, u41, u42, u43, u44, u45, u46, u47, u48, u49, u50, u51, u52, u53, u54, u55, u56, u57, u58, u59, u60, u61, u62, u63, u64, u65, u66, u67, u68, u69, u70, u71, u72, u73, u74, u75] := by kernel_rfl
theorem regionFD (lk pb k : Nat) (av : Value) (p : Pg) (B : Nat) (w0 : World) (h0 : w0.cell? ⟨lk, 20, none⟩ = some av) (hlk : lk < w0.heap.size) (h1 : w0.heap[pb]? = some (.cells (pgA p) 100 (0, 0))) (hB : B <= w0.heap.size) {QQ : Exit -> Act -> World -> Prop} (hQ : ∀ (vs : Nat -> Value) w, (∀ j, j < 10 -> VFD lk pb k av p B j (vs j) w) -> Fre.Kept w0 w -> wpList Tryz.prog opsFD.1 QQ (opsFD.1.toList.drop 10) ⟨#[.pointer (some ⟨lk, 0, none⟩), u1, .int .i64 (k : Int), .pointer (some ⟨pb, 0, none⟩), u4, u5, u6, u7, u8, u9, u10, u11, u12, u13, u14, u15, u16, u17, u18, u19, u20, u21, u22, vs 0, vs 1, vs 2, vs 3, vs 4, vs 5, vs 6, vs 7, vs 8, vs 9, u33, u34, u35, u36, u37, u38, u39, u40, u41, u42, u43, u44, u45, u46, u47, u48, u49, u50, u51, u52, u53, u54, u55, u56, u57, u58, u59, u60, u61, u62, u63, u64, u65, u66, u67, u68, u69, u70, u71, u72, u73, u74, u75], []⟩ w) (hQ2 : ∀ (vs : Nat -> Value) w, (∀ j, j < 10 -> j ≠ 0 -> VFD lk pb k av p B j (vs j) w) -> Fre.Kept w0 w -> wpList Tryz.prog opsFD.1 QQ (opsFD.1[10]'(by rw [sizeFD]; omega) :: opsFD.1[0]'(by rw [sizeFD]; omega) :: opsFD.1.toList.drop 11) ⟨#[.pointer (some ⟨lk, 0, none⟩), u1, .int .i64 (k : Int), .pointer (some ⟨pb, 0, none⟩), u4, u5, u6, u7, u8, u9, u10, u11, u12, u13, u14, u15, u16, u17, u18, u19, u20, u21, u22, u23, vs 1, vs 2, vs 3, vs 4, vs 5, vs 6, vs 7, vs 8, vs 9, u33, u34, u35, u36, u37, u38, u39, u40, u41, u42, u43, u44, u45, u46, u47, u48, u49, u50, u51, u52, u53, u54, u55, u56, u57, u58, u59, u60, u61, u62, u63, u64, u65, u66, u67, u68, u69, u70, u71, u72, u73, u74, u75], []⟩ w) : (Code.region 5 opsFD.1 true).wp Tryz.prog QQ ⟨#[.pointer (some ⟨lk, 0, none⟩), u1, .int .i64 (k : Int), .pointer (some ⟨pb, 0, none⟩), u4, u5, u6, u7, u8, u9, u10, u11, u12, u13, u14, u15, u16, u17, u18, u19, u20, u21, u22, u23, u24, u25, u26, u27, u28, u29, u30, u31, u32, u33, u34, u35, u36, u37, u38, u39, u40, u41, u42, u43, u44, u45, u46, u47, u48, u49, u50, u51, u52, u53, u54, u55, u56, u57, u58, u59, u60, u61, u62, u63, u64, u65, u66, u67, u68, u69, u70, u71, u72, u73, u74, u75], []⟩ w0 := by
 refine Fre.region_lateT 76 10 0 (by omega) (by rw [sizeFD]; omega) (by kernel_rfl) fitFD rfl tailFD (by rw [sizeFD]; omega) (VFD lk pb k av p B) (kpFD lk pb k av p B) (fun i hi => ?_) (fun vs w h1 h2 => ?_) (fun vs w h1 h3 h2 => ?_)
 case refine_2 => show wpList _ _ _ _ ⟨Fre.finT opsFD.1 vs #[.pointer (some ⟨lk, 0, none⟩), u1, .int .i64 (k : Int), .pointer (some ⟨pb, 0, none⟩), u4, u5, u6, u7, u8, u9, u10, u11, u12, u13, u14, u15, u16, u17, u18, u19, u20, u21, u22, u23, u24, u25, u26, u27, u28, u29, u30, u31, u32, u33, u34, u35, u36, u37, u38, u39, u40, u41, u42, u43, u44, u45, u46, u47, u48, u49, u50, u51, u52, u53, u54, u55, u56, u57, u58, u59, u60, u61, u62, u63, u64, u65, u66, u67, u68, u69, u70, u71, u72, u73, u74, u75] 10, []⟩ w; rw [finFD lk pb k av p B vs]; exact hQ vs w h1 h2
 case refine_3 =>
  have e3 : vs 0 = u23 := (Option.some.inj (h3 23 (by kernel_rfl))).symm
  show wpList _ _ _ _ ⟨Fre.finT opsFD.1 vs #[.pointer (some ⟨lk, 0, none⟩), u1, .int .i64 (k : Int), .pointer (some ⟨pb, 0, none⟩), u4, u5, u6, u7, u8, u9, u10, u11, u12, u13, u14, u15, u16, u17, u18, u19, u20, u21, u22, u23, u24, u25, u26, u27, u28, u29, u30, u31, u32, u33, u34, u35, u36, u37, u38, u39, u40, u41, u42, u43, u44, u45, u46, u47, u48, u49, u50, u51, u52, u53, u54, u55, u56, u57, u58, u59, u60, u61, u62, u63, u64, u65, u66, u67, u68, u69, u70, u71, u72, u73, u74, u75] 10, []⟩ w; rw [finFD lk pb k av p B vs, e3]; exact hQ2 vs w h1 h2
 have hc : i = 0 \/ i = 1 \/ i = 2 \/ i = 3 \/ i = 4 \/ i = 5 \/ i = 6 \/ i = 7 \/ i = 8 \/ i = 9 := by omega
 rcases hc with rfl | rfl | rfl | rfl | rfl | rfl | rfl | rfl | rfl | rfl
 ·exact stFD_0 lk pb k av p B _ rfl w0 h0 hlk h1 hB
 ·exact stFD_1 lk pb k av p B _ rfl w0 h0 hlk h1 hB
 ·exact stFD_2 lk pb k av p B _  w0 h0 hlk h1 hB
 ·exact stFD_3 lk pb k av p B _  w0 h0 hlk h1 hB
 ·exact stFD_4 lk pb k av p B _  w0 h0 hlk h1 hB
 ·exact stFD_5 lk pb k av p B _ rfl w0 h0 hlk h1 hB
 ·exact stFD_6 lk pb k av p B _ rfl w0 h0 hlk h1 hB
 ·exact stFD_7 lk pb k av p B _  w0 h0 hlk h1 hB
 ·exact stFD_8 lk pb k av p B _  w0 h0 hlk h1 hB
 ·exact stFD_9 lk pb k av p B _  w0 h0 hlk h1 hB
end
end Go.Proofs.YtpbmjfjnmcpieaaGreat
