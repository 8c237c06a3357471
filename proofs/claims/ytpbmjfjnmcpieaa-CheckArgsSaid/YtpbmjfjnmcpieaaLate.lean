/- A region that draws its order, with one operation that may come up late: behind the first of those that wait. Any program. -/
import Derived.Test.YtpbmjfjnmcpieaaFree
set_option linter.unusedVariables false
set_option linter.unusedSimpArgs false
namespace Go.Proofs.Ytpbmjfjnmcpieaa
open Go Go.RowKit
namespace Fre
section
variable {P : Program} {ops : Array Oper}
theorem any_tail1 {md : Region.Mode} {Q : Exit → Act → World → Prop} {N n0 : Nat} (hf : Fits md ops N) (ht : tailFit md ops n0 = true) :
    ∀ (fuel k : Nat) (listed : Array Bool) (a : Act) (w : World), listed.size = ops.size → n0 ≤ k + 1 → ops.size - k ≤ fuel → (∀ j, j < ops.size → listed.getD j true = decide (j < k)) →
      wpList P ops Q (ops.toList.drop k) a w → wpAny P md ops Q fuel listed a w := by
  have hw := tailFit_spec ht
  have hrd : ∀ (k : Nat) (listed : Array Bool), listed.size = ops.size → n0 ≤ k + 1 → (∀ j, j < ops.size → listed.getD j true = decide (j < k)) → ∀ i, i ∈ Region.ready md ops listed ↔ i = k ∧ k < ops.size := by
    intro k listed hl hk hls i
    constructor
    · intro hi
      obtain ⟨hun, o, ho, hdep⟩ := mem_ready.1 hi
      have hlt : i < ops.size := (Array.getElem?_eq_some_iff.1 ho).1
      have hik : k ≤ i := by have := hls i hlt; rw [hun] at this; simpa using this.symm
      rcases Nat.eq_or_lt_of_le hik with h | h
      · subst h; exact ⟨rfl, hlt⟩
      · exfalso
        have hwi := hw i k hlt (by omega) h
        unfold waits at hwi
        rw [ho] at hwi
        simp only [Option.map_some, Option.getD_some, Array.any_eq_true', Bool.and_eq_true, beq_iff_eq] at hwi
        obtain ⟨e, he, hb, hek⟩ := hwi
        have h1 := hdep e he hb
        rw [hek] at h1
        have h2 := hls k (by omega)
        simp only [Nat.lt_irrefl, decide_false] at h2
        rw [Array.getD_eq_getD_getElem?, Array.getElem?_eq_getElem (by omega)] at h1 h2
        simp only [Option.getD_some] at h1 h2
        rw [h1] at h2; cases h2
    · rintro ⟨rfl, hlt⟩
      refine mem_ready.2 ⟨by rw [hls i hlt]; simp, ops[i], Array.getElem?_eq_getElem hlt, fun e he hb => ?_⟩
      have hbk := hf.back i ops[i] e (Array.getElem?_eq_getElem hlt) he hb
      have h2 := hls e.on (by omega)
      rw [decide_eq_true hbk] at h2
      rw [Array.getD_eq_getD_getElem?, Array.getElem?_eq_getElem (by omega)] at h2 ⊢
      exact h2
  intro fuel
  induction fuel with
  | zero =>
    intro k listed a w hl hk hfu hls h
    have hke : ops.size ≤ k := by omega
    have hr : Region.ready md ops listed = [] := by
      cases hrr : Region.ready md ops listed with
      | nil => rfl
      | cons x xs =>
        have := (hrd k listed hl hk hls x).1 (by rw [hrr]; simp)
        omega
    rw [List.drop_of_length_le (by simpa using hke)] at h
    exact ⟨hr, h⟩
  | succ fuel ih =>
    intro k listed a w hl hk hfu hls h
    refine ⟨fun hr => ?_, fun i hi => ?_⟩
    · have hke : ops.size ≤ k := by
        rcases Nat.lt_or_ge k ops.size with h' | h'
        · have := (hrd k listed hl hk hls k).2 ⟨rfl, h'⟩
          rw [hr] at this; cases this
        · exact h'
      rw [List.drop_of_length_le (by simpa using hke)] at h
      exact h
    · obtain ⟨rfl, hlt⟩ := (hrd k listed hl hk hls i).1 hi
      have hdr : ops.toList.drop i = ops[i] :: ops.toList.drop (i + 1) := by
        rw [List.drop_eq_getElem_cons (by simpa using hlt)]; simp
      rw [hdr] at h
      unfold wpOp
      rw [Array.getElem?_eq_getElem hlt]
      simp only
      have hls' : ∀ j, j < ops.size → (listed.setIfInBounds i true).getD j true = decide (j < i + 1) := by
        intro j hj
        by_cases hji : j = i
        · subst hji
          simp [Array.getD_eq_getD_getElem?, Array.getElem?_setIfInBounds, hl, hlt]
        · have := hls j hj
          have e1 : (listed.setIfInBounds i true).getD j true = listed.getD j true := by
            simp [Array.getD_eq_getD_getElem?, Array.getElem?_setIfInBounds, Ne.symm hji]
          rw [e1, this, decide_eq_decide]; omega
      have hmn : ∀ a w, wpList P ops Q (ops.toList.drop (i + 1)) a w → wpAny P md ops Q fuel (listed.setIfInBounds i true) a w := fun a w h => ih (i + 1) _ a w (by simp [hl]) (by omega) (by omega) hls' h
      unfold wpList at h
      split
      · rename_i hwn
        rw [if_pos hwn] at h
        exact h.imp (Oper.wp_mono hmn) id
      · rename_i hwn
        rw [if_neg hwn] at h
        exact hmn _ _ h
/-- from number n0 on each operation waits for all before it; but n0 need not wait for ℓ -/
def lateFit (md : Region.Mode) (ops : Array Oper) (n0 ℓ : Nat) : Bool :=
  (List.range ops.size).all fun i => decide (i < n0) || (List.range i).all fun j => waits md ops i j || (i == n0 && j == ℓ)
theorem lateFit_spec {md : Region.Mode} {n0 ℓ : Nat} (h : lateFit md ops n0 ℓ = true) : ∀ i j, i < ops.size → n0 ≤ i → j < i → waits md ops i j = true ∨ (i = n0 ∧ j = ℓ) := by
  intro i j hi hn hj
  unfold lateFit at h
  rw [List.all_eq_true] at h
  have := h i (List.mem_range.2 hi)
  simp only [Bool.or_eq_true, decide_eq_true_eq, List.all_eq_true, Bool.and_eq_true, beq_iff_eq] at this
  rcases this with h1 | h1
  · omega
  · exact h1 j (List.mem_range.2 hj)
theorem lateFit_tail {md : Region.Mode} {n0 ℓ : Nat} (h : lateFit md ops n0 ℓ = true) : tailFit md ops (n0 + 1) = true := by
  unfold tailFit
  rw [List.all_eq_true]
  intro i hi
  have hi := List.mem_range.1 hi
  rcases Nat.lt_or_ge i (n0 + 1) with h1 | h1
  · simp [h1]
  · simp only [Bool.or_eq_true, decide_eq_true_eq, List.all_eq_true]
    right
    intro j hj
    rcases lateFit_spec h i j hi (by omega) (List.mem_range.1 hj) with h2 | h2
    · exact h2
    · omega
theorem any_late1 {md : Region.Mode} {Q : Exit → Act → World → Prop} {N n0 ℓ : Nat} (hf : Fits md ops N) (ht1 : tailFit md ops (n0 + 1) = true) (hℓ : ℓ < n0) :
    ∀ (fuel : Nat) (listed : Array Bool) (a : Act) (w : World), listed.size = ops.size → (hn9 : n0 < ops.size) → ops.size - n0 ≤ fuel → (∀ j, j < ops.size → listed.getD j true = decide (j < n0 + 1 ∧ j ≠ ℓ)) →
      wpList P ops Q (ops[ℓ] :: ops.toList.drop (n0 + 1)) a w → wpAny P md ops Q fuel listed a w := by
  have hw := tailFit_spec ht1
  intro fuel listed a w hl hn9 hfu hls h
  have hlt9 : ℓ < ops.size := by omega
  have hgf : ∀ j, j < ops.size → listed.getD j false = listed.getD j true := fun j hj => by
    simp [Array.getD_eq_getD_getElem?, hl, hj]
  have hrd : ∀ i, i ∈ Region.ready md ops listed → i = ℓ := by
    intro i hi
    obtain ⟨hun, o, ho, hdep⟩ := mem_ready.1 hi
    have hlt : i < ops.size := (Array.getElem?_eq_some_iff.1 ho).1
    have h1 := hls i hlt
    rw [hun] at h1
    have h2 : ¬ (i < n0 + 1 ∧ i ≠ ℓ) := of_decide_eq_false h1.symm
    apply Classical.byContradiction
    intro hne
    have hge : n0 + 1 ≤ i := by
      rcases Nat.lt_or_ge i (n0 + 1) with h3 | h3
      · exact absurd ⟨h3, hne⟩ h2
      · exact h3
    have hwi := hw i ℓ hlt hge (by omega)
    unfold waits at hwi
    rw [ho] at hwi
    simp only [Option.map_some, Option.getD_some, Array.any_eq_true', Bool.and_eq_true, beq_iff_eq] at hwi
    obtain ⟨e, he, hb, hek⟩ := hwi
    have h5 := hdep e he hb
    rw [hek, hgf ℓ hlt9, hls ℓ hlt9] at h5
    simp at h5
  have hmem : ℓ ∈ Region.ready md ops listed := by
    refine mem_ready.2 ⟨by rw [hls ℓ hlt9]; simp, ops[ℓ], Array.getElem?_eq_getElem hlt9, fun e he hb => ?_⟩
    have hbk := hf.back ℓ ops[ℓ] e (Array.getElem?_eq_getElem hlt9) he hb
    rw [hgf e.on (by omega), hls e.on (by omega)]
    simp; omega
  cases fuel with
  | zero => omega
  | succ fuel =>
    refine ⟨fun hr => by { rw [hr] at hmem; cases hmem }, fun i hi => ?_⟩
    obtain rfl := hrd i hi
    have hmn : ∀ a w, wpList P ops Q (ops.toList.drop (n0 + 1)) a w → wpAny P md ops Q fuel (listed.setIfInBounds i true) a w := fun a w h =>
      any_tail1 hf ht1 fuel (n0 + 1) _ a w (by simp [hl]) (by omega) (by omega) (fun j hj => by
        by_cases hji : j = i
        · subst hji
          simp [Array.getD_eq_getD_getElem?, Array.getElem?_setIfInBounds, hl, hlt9]; omega
        · have e1 : (listed.setIfInBounds i true).getD j true = listed.getD j true := by
            simp [Array.getD_eq_getD_getElem?, Array.getElem?_setIfInBounds, Ne.symm hji]
          rw [e1, hls j hj, decide_eq_decide]; omega) h
    unfold wpOp
    rw [Array.getElem?_eq_getElem hlt9]
    simp only
    unfold wpList at h
    split
    · rename_i hwn
      rw [if_pos hwn] at h
      exact h.imp (Oper.wp_mono hmn) id
    · rename_i hwn
      rw [if_neg hwn] at h
      exact hmn _ _ h
/-- the law, where operation ℓ may come up behind the first of the tail -/
theorem region_late {id : Nat} {Q : Exit → Act → World → Prop} {a0 : Act} {w0 : World} (N n0 ℓ : Nat) (hℓ : ℓ < n0) (hn9 : n0 < ops.size) (hm : P.follows .mixedOrders = true) (hf : fit .any ops N = true) (hN : a0.tmps.size = N) (ht : lateFit .any ops n0 ℓ = true) (hn0 : n0 ≤ ops.size) (V : Nat → Value → World → Prop)
    (hst : ∀ j v w w', j < n0 → V j v w → Kept w w' → V j v w') (hop : ∀ i, i < n0 → StepB P ops a0 w0 V Kept i)
    (hQ : ∀ (vs : Nat → Value) w, (∀ j, j < n0 → V j (vs j) w) → Kept w0 w → wpList P ops Q (ops.toList.drop n0) ⟨finT ops vs a0.tmps n0, a0.defers⟩ w) 
    (hQ2 : ∀ (vs : Nat → Value) w, (∀ j, j < n0 → j ≠ ℓ → V j (vs j) w) → (∀ t, dstOf ops ℓ = some t → a0.tmps[t]? = some (vs ℓ)) → Kept w0 w → wpList P ops Q (ops[n0] :: ops[ℓ] :: ops.toList.drop (n0 + 1)) ⟨finT ops vs a0.tmps n0, a0.defers⟩ w) : (Code.region id ops true).wp P Q a0 w0 := by
  refine wp_region_any hm ?_
  have hfs := fits_of (md := .any) hf
  have hw := lateFit_spec ht
  have ht1 := lateFit_tail ht
  have hgf : ∀ (listed : Array Bool), listed.size = ops.size → ∀ j, j < ops.size → listed.getD j false = listed.getD j true := fun listed hl j hj => by
    simp [Array.getD_eq_getD_getElem?, hl, hj]
  have main : ∀ (fuel : Nat) (listed : Array Bool) (a : Act) (w : World) (vs : Nat → Value), listed.size = ops.size → ((List.range ops.size).filter fun j => !listed.getD j true).length ≤ fuel →
      (∀ j, j < ops.size → n0 ≤ j → listed.getD j true = false) → Agree ops a0 a listed vs → (∀ j, j < n0 → listed.getD j false = true → V j (vs j) w) → Kept w0 w → wpAny P .any ops Q fuel listed a w := by
    have hend : ∀ (fuel : Nat) (listed : Array Bool) (a : Act) (w : World) (vs : Nat → Value), listed.size = ops.size → ((List.range ops.size).filter fun j => !listed.getD j true).length ≤ fuel → (∀ j, j < ops.size → n0 ≤ j → listed.getD j true = false) → Agree ops a0 a listed vs → (∀ j, j < n0 → listed.getD j false = true → V j (vs j) w) → Kept w0 w → (∀ j, j < n0 → listed.getD j true = true) → wpAny P .any ops Q fuel listed a w := by
      intro fuel listed a w vs hl hc htl hA hV hS hall
      have hcnt : ops.size - n0 ≤ fuel := by
        refine Nat.le_trans ?_ hc
        have : ((List.range ops.size).filter fun j => !listed.getD j true).length = ((List.range ops.size).filter fun j => decide (n0 ≤ j)).length := by
          congr 1
          apply List.filter_congr
          intro j hj
          have hj' := List.mem_range.1 hj
          rcases Nat.lt_or_ge j n0 with h | h
          · rw [hall j h]; simp; omega
          · rw [htl j hj' h]; simp; omega
        rw [this]
        have h2 : (List.range ops.size).filter (fun j => decide (n0 ≤ j)) = List.range' n0 (ops.size - n0) := by
          have : List.range ops.size = List.range n0 ++ List.range' n0 (ops.size - n0) := by
            rw [List.range_eq_range', List.range_eq_range', show ops.size = n0 + (ops.size - n0) by omega, ← List.range'_append_1]; simp
          rw [this, List.filter_append]
          rw [List.filter_eq_nil_iff.2 (fun x hx => by have := List.mem_range.1 hx; simp; omega), List.nil_append]
          exact List.filter_eq_self.2 (fun x hx => by have := (List.mem_range'_1.1 hx).1; simpa using this)
        rw [h2, List.length_range']; exact Nat.le_refl _
      refine any_tail1 hfs ht1 fuel n0 listed a w hl (Nat.le_refl _) hcnt (fun j hj => ?_) ?_
      · rcases Nat.lt_or_ge j n0 with h | h
        · rw [hall j h]; simp [h]
        · rw [htl j hj h]; simp; omega
      · have ha : a = ⟨finT ops vs a0.tmps n0, a0.defers⟩ := by
          obtain ⟨h1, h2, h3, h4⟩ := hA
          obtain ⟨T, D⟩ := a
          simp only at h1 h2 h3 h4
          subst h1
          congr 1
          apply Array.ext_getElem?
          intro t
          obtain ⟨k1, k2⟩ := finT_get hfs vs a0.tmps hN n0 hn0 t
          by_cases hx : ∃ j, j < n0 ∧ dstOf ops j = some t
          · obtain ⟨j, hj, hd⟩ := hx
            rw [k1 j hj hd, h3 j t (by omega) hd (by rw [hgf listed hl j (by omega)]; exact hall j hj)]
          · rw [k2 (fun j hj hd => hx ⟨j, hj, hd⟩)]
            refine h4 t fun j hj hd => ?_
            rcases Nat.lt_or_ge j n0 with h | h
            · exact absurd ⟨j, h, hd⟩ hx
            · rw [hgf listed hl j hj]; exact htl j hj h
        rw [ha]
        exact hQ vs w (fun j hj => hV j hj (by rw [hgf listed hl j (by omega)]; exact hall j hj)) hS
    intro fuel
    induction fuel with
    | zero =>
      intro listed a w vs hl hc htl hA hV hS
      refine hend 0 listed a w vs hl hc htl hA hV hS fun j hj => ?_
      cases hc2 : listed.getD j true with
      | true => rfl
      | false =>
        have : j ∈ (List.range ops.size).filter fun j => !listed.getD j true := List.mem_filter.2 ⟨List.mem_range.2 (by omega), by rw [hc2]; rfl⟩
        rw [List.eq_nil_of_length_eq_zero (Nat.le_zero.1 hc)] at this
        cases this
    | succ fuel ih =>
      intro listed a w vs hl hc htl hA hV hS
      by_cases hall : ∀ j, j < n0 → listed.getD j true = true
      · exact hend (fuel + 1) listed a w vs hl hc htl hA hV hS hall
      · have hunl : ∃ j, j < n0 ∧ listed.getD j true = false := by
          apply Classical.byContradiction
          intro h
          exact hall fun j hj => by
            cases hc2 : listed.getD j true with
            | true => rfl
            | false => exact absurd ⟨j, hj, hc2⟩ h
        have hni : ∀ i, i ∈ Region.ready .any ops listed → i < n0 ∨ (i = n0 ∧ ∀ j, j < n0 → j ≠ ℓ → listed.getD j true = true) := by
          intro i hi
          obtain ⟨hun, o, ho, hdep⟩ := mem_ready.1 hi
          have hlt : i < ops.size := (Array.getElem?_eq_some_iff.1 ho).1
          have hws : ∀ j, j < ops.size → waits .any ops i j = true → listed.getD j true = true := by
            intro j hj hwi
            unfold waits at hwi
            rw [ho] at hwi
            simp only [Option.map_some, Option.getD_some, Array.any_eq_true', Bool.and_eq_true, beq_iff_eq] at hwi
            obtain ⟨e, he, hb, hek⟩ := hwi
            have h1 := hdep e he hb
            rw [hek, hgf listed hl j hj] at h1
            exact h1
          rcases Nat.lt_or_ge i n0 with h | h
          · exact .inl h
          · right
            rcases Nat.eq_or_lt_of_le h with h9 | h9
            · subst h9
              refine ⟨rfl, fun j hj hjl => ?_⟩
              rcases hw n0 j hlt (Nat.le_refl _) hj with h1 | h1
              · exact hws j (by omega) h1
              · exact absurd h1.2 hjl
            · exfalso
              rcases hw i n0 hlt h h9 with h1 | h1
              · have := hws n0 hn9 h1
                rw [htl n0 hn9 (Nat.le_refl _)] at this; cases this
              · omega
        refine ⟨fun hr => ?_, fun i hi => ?_⟩
        · exfalso
          -- the least operation that has not come up is ready
          have hex : ∀ j, j < n0 → listed.getD j true = true := by
            intro j
            induction j using Nat.strongRecOn with
            | ind j ihj =>
              intro hj
              cases hc2 : listed.getD j true with
              | true => rfl
              | false =>
                have : j ∈ Region.ready .any ops listed := by
                  refine mem_ready.2 ⟨hc2, ops[j], Array.getElem?_eq_getElem (by omega), fun e he hbi => ?_⟩
                  have hb := hfs.back j ops[j] e (Array.getElem?_eq_getElem (by omega)) he hbi
                  rw [hgf listed hl e.on (by omega)]
                  exact ihj e.on hb (by omega)
                rw [hr] at this; cases this
          exact hall hex
        · rcases hni i hi with hin | ⟨rfl, hall2⟩
          case inr =>
            have hunl2 : listed.getD ℓ true = false := by
              obtain ⟨j, hj, hjf⟩ := hunl
              by_cases hjl : j = ℓ
              · rw [← hjl]; exact hjf
              · rw [hall2 j hj hjl] at hjf; cases hjf
            -- the state
            have hcnt : ops.size - i + 1 ≤ fuel + 1 := by
              refine Nat.le_trans ?_ hc
              have hmem : ℓ ∈ (List.range ops.size).filter fun j => !listed.getD j true := List.mem_filter.2 ⟨List.mem_range.2 (by omega), by rw [hunl2]; rfl⟩
              have hlt2 : (((List.range ops.size).filter fun j => !listed.getD j true).filter fun j => j != ℓ).length < ((List.range ops.size).filter fun j => !listed.getD j true).length := by
                apply List.length_filter_lt_length_iff_exists.2
                exact ⟨ℓ, hmem, by simp⟩
              have heq : (((List.range ops.size).filter fun j => !listed.getD j true).filter fun j => j != ℓ) = (List.range ops.size).filter (fun j => decide (i ≤ j)) := by
                rw [List.filter_filter]
                apply List.filter_congr
                intro j hj
                have hj' := List.mem_range.1 hj
                by_cases hjl : j = ℓ
                · subst hjl; simp; omega
                · rcases Nat.lt_or_ge j i with h | h
                  · rw [hall2 j h hjl]; simp; omega
                  · rw [htl j hj' h]; simp [h, hjl]
              have h2 : (List.range ops.size).filter (fun j => decide (i ≤ j)) = List.range' i (ops.size - i) := by
                have : List.range ops.size = List.range i ++ List.range' i (ops.size - i) := by
                  rw [List.range_eq_range', List.range_eq_range', show ops.size = i + (ops.size - i) by omega, ← List.range'_append_1]; simp
                rw [this, List.filter_append]
                rw [List.filter_eq_nil_iff.2 (fun x hx => by have := List.mem_range.1 hx; simp; omega), List.nil_append]
                exact List.filter_eq_self.2 (fun x hx => by have := (List.mem_range'_1.1 hx).1; simpa using this)
              rw [heq, h2, List.length_range'] at hlt2
              omega
            have hq := hQ2 (fun j => if j = ℓ then a0.tmps.getD ((dstOf ops ℓ).getD 0) undef else vs j) w (fun j hj hjl => by
                simp only [if_neg hjl]
                exact hV j hj (by rw [hgf listed hl j (by omega)]; exact hall2 j hj hjl)) (fun t htl2 => by
                simp only [if_true]
                rw [htl2, Option.getD_some]
                have h1 := hfs.inb ℓ t htl2
                rw [Array.getD_eq_getD_getElem?, Array.getElem?_eq_getElem (by rw [hN]; exact h1)]; rfl) hS
            have ha : a = ⟨finT ops (fun j => if j = ℓ then a0.tmps.getD ((dstOf ops ℓ).getD 0) undef else vs j) a0.tmps i, a0.defers⟩ := by
              obtain ⟨h1, h2, h3, h4⟩ := hA
              obtain ⟨T, D⟩ := a
              simp only at h1 h2 h3 h4
              subst h1
              congr 1
              apply Array.ext_getElem?
              intro t
              obtain ⟨k1, k2⟩ := finT_get hfs (fun j => if j = ℓ then a0.tmps.getD ((dstOf ops ℓ).getD 0) undef else vs j) a0.tmps hN i hn0 t
              by_cases hx : ∃ j, j < i ∧ dstOf ops j = some t
              · obtain ⟨j, hj, hd⟩ := hx
                rw [k1 j hj hd]
                by_cases hjl : j = ℓ
                · subst hjl
                  simp only [if_true]
                  rw [hd, Option.getD_some]
                  have hin := hfs.inb j t hd
                  rw [h4 t fun q hq hqd => by rw [hfs.apart q j t hq (by omega) hqd hd, hgf listed hl j (by omega)]; exact hunl2]
                  rw [Array.getD_eq_getD_getElem?, Array.getElem?_eq_getElem (by rw [hN]; exact hin)]; rfl
                · simp only [if_neg hjl]
                  exact h3 j t (by omega) hd (by rw [hgf listed hl j (by omega)]; exact hall2 j hj hjl)
              · rw [k2 (fun j hj hd => hx ⟨j, hj, hd⟩)]
                refine h4 t fun j hj hd => ?_
                rcases Nat.lt_or_ge j i with h | h
                · exact absurd ⟨j, h, hd⟩ hx
                · rw [hgf listed hl j hj]; exact htl j hj h
            rw [← ha] at hq
            have hmn : ∀ a w, wpList P ops Q (ops[ℓ] :: ops.toList.drop (i + 1)) a w → wpAny P .any ops Q fuel (listed.setIfInBounds i true) a w := fun a w h =>
              any_late1 hfs ht1 hℓ fuel _ a w (by simp [hl]) hn9 (by omega) (fun j hj => by
                by_cases hji : j = i
                · subst hji
                  simp [Array.getD_eq_getD_getElem?, Array.getElem?_setIfInBounds, hl, hn9]; omega
                · have e1 : (listed.setIfInBounds i true).getD j true = listed.getD j true := by
                    simp [Array.getD_eq_getD_getElem?, Array.getElem?_setIfInBounds, Ne.symm hji]
                  rw [e1]
                  rcases Nat.lt_or_ge j i with h5 | h5
                  · by_cases hjl : j = ℓ
                    · rw [hjl, hunl2]; simp
                    · rw [hall2 j h5 hjl]; simp [hjl]; omega
                  · rw [htl j hj h5]; simp; omega) h
            unfold wpOp
            rw [Array.getElem?_eq_getElem hn9]
            simp only
            unfold wpList at hq
            split
            · rename_i hwn
              rw [if_pos hwn] at hq
              exact hq.imp (Oper.wp_mono hmn) (fun x => x)
            · rename_i hwn
              rw [if_neg hwn] at hq
              exact hmn _ _ hq
          obtain ⟨hun, o, ho, hdep⟩ := mem_ready.1 hi
          have hlt : i < ops.size := (Array.getElem?_eq_some_iff.1 ho).1
          unfold wpOp
          simp only [ho]
          rw [if_pos (by unfold Region.wanted; rw [hfs.guard i o ho])]
          refine .inl ?_
          have hdo : dstOf ops i = o.dst := by unfold dstOf; rw [ho]; rfl
          have hwl : ∀ j, waits .any ops i j = true → listed.getD j false = true ∧ j < n0 := by
            intro j hwj
            unfold waits at hwj
            rw [ho] at hwj
            simp only [Option.map_some, Option.getD_some, Array.any_eq_true', Bool.and_eq_true, beq_iff_eq] at hwj
            obtain ⟨e, he, hb, rfl⟩ := hwj
            exact ⟨hdep e he hb, by have := hfs.back i o e ho he hb; omega⟩
          have hD := (hop i hin).step a.eval w (fun _ => rfl) (fun _ => rfl) (fun _ => rfl) (fun t ht' => by
              show a.tmps.getD t undef = _
              rw [Array.getD_eq_getD_getElem?, Array.getD_eq_getD_getElem?, hA.2.2.2 t fun j hj hjt => absurd hjt (ht' j hj)])
            (fun j t hwj hjt => by
              obtain ⟨h1, h1n⟩ := hwl j hwj
              have h2 := hA.2.2.1 j t (by omega) hjt h1
              show V j (a.tmps.getD t undef) w
              rw [Array.getD_eq_getD_getElem?, h2]
              exact hV j h1n h1) (fun j hwj _ => ⟨vs j, hV j (hwl j hwj).2 (hwl j hwj).1⟩) hS o ho
          refine Does.wp hD ?_
          rintro v w' ⟨hv, hs⟩
          rw [← hdo]
          have hfl : (List.range ops.size).filter (fun j => !(listed.setIfInBounds i true).getD j true) = ((List.range ops.size).filter fun j => !listed.getD j true).filter fun j => j != i := by
            rw [List.filter_filter]
            apply List.filter_congr
            intro j hj
            by_cases hji : j = i
            · subst hji
              simp [Array.getD_eq_getD_getElem?, Array.getElem?_setIfInBounds, hl, hlt]
            · simp [Array.getD_eq_getD_getElem?, Array.getElem?_setIfInBounds, Ne.symm hji, hji]
          refine ih (listed.setIfInBounds i true) (a.put (dstOf ops i) v) w' _ (by simp [hl]) ?_ (fun j hj hjn => ?_) (hA.step hfs hN hlt hl hun v) (fun j hj hlj' => ?_) (hS.trans hs)
          · rw [hfl]
            have hmem : i ∈ (List.range ops.size).filter fun j => !listed.getD j true := List.mem_filter.2 ⟨List.mem_range.2 hlt, by rw [hun]; rfl⟩
            have hlt2 : (((List.range ops.size).filter fun j => !listed.getD j true).filter fun j => j != i).length < ((List.range ops.size).filter fun j => !listed.getD j true).length := by
              apply List.length_filter_lt_length_iff_exists.2
              exact ⟨i, hmem, by simp⟩
            omega
          · have hji : j ≠ i := by omega
            rw [Array.getD_eq_getD_getElem?, Array.getElem?_setIfInBounds, if_neg (Ne.symm hji), ← Array.getD_eq_getD_getElem?]
            exact htl j hj hjn
          · by_cases hji : j = i
            · subst hji; simp only [if_true]; exact hv
            · simp only [if_neg hji]
              refine hst j _ w w' hj (hV j hj ?_) hs
              rw [Array.getD_eq_getD_getElem?, Array.getElem?_setIfInBounds] at hlj'
              rw [Array.getD_eq_getD_getElem?]
              simpa [Ne.symm hji] using hlj'
  refine main ops.size _ a0 _ (fun _ => undef) (by simp) (by have := List.length_filter_le (fun j => !(Array.replicate ops.size false).getD j true) (List.range ops.size); rw [List.length_range] at this; exact this) (fun j hj _ => ?_) ⟨rfl, rfl, fun j t hj _ h => ?_, fun t _ => rfl⟩ (fun j hj h => ?_) (Kept.drew _)
  · simp [Array.getD_eq_getD_getElem?, hj]
  · simp [Array.getD_eq_getD_getElem?, hj] at h
  · simp [Array.getD_eq_getD_getElem?, (show j < ops.size by omega)] at h
end
end Fre
end Go.Proofs.Ytpbmjfjnmcpieaa
