/- The plain law of Check: pages, runs, heads. No program in sight. -/
import Derived.Test.YtpbmjfjnmcpieaaLib
set_option linter.unusedVariables false
set_option linter.unusedSimpArgs false
namespace Go.Proofs.Ytpbmjfjnmcpieaa
open Go Go.RowKit
/-- what a page is -/
structure Pg where
  kind : Nat
  cls : Nat
  run : Nat
  size : Nat
  ser : Nat
def freeP (p : Pg) : Bool := p.kind == 0 && p.cls == 0 && p.run == 0 && p.size == 0 && p.ser == 0
def tailP (p : Pg) : Bool := p.kind == 3 && p.cls == 0 && p.run == 0 && p.size == 0 && p.ser == 0
def slotsP (p : Pg) : Bool := p.kind == 1 && p.run == 0 && p.size == 0 && p.ser == 0 && decide (p.cls < 8)
def pagesOf (n : Nat) : Nat := (n + 255) / 256
def headP (p : Pg) : Bool := p.kind == 2 && p.cls == 0 && decide (120 < p.size) && decide (p.size ≤ 4096) && p.run == pagesOf p.size && decide (0 < p.ser) && decide (p.ser < 281474976710656)
def oneP (p : Pg) : Bool := freeP p || slotsP p || headP p || tailP p
theorem oneP_kind {p : Pg} (h : oneP p = true) : (p.kind = 0 ∧ freeP p = true) ∨ (p.kind = 1 ∧ slotsP p = true) ∨ (p.kind = 2 ∧ headP p = true) ∨ (p.kind = 3 ∧ tailP p = true) := by
  unfold oneP at h
  simp only [Bool.or_eq_true] at h
  rcases h with ((h | h) | h) | h
  · exact Or.inl ⟨by unfold freeP at h; simp only [Bool.and_eq_true, beq_iff_eq] at h; exact h.1.1.1.1, h⟩
  · exact Or.inr (Or.inl ⟨by unfold slotsP at h; simp only [Bool.and_eq_true, beq_iff_eq] at h; exact h.1.1.1.1, h⟩)
  · exact Or.inr (Or.inr (Or.inl ⟨by unfold headP at h; simp only [Bool.and_eq_true, beq_iff_eq] at h; exact h.1.1.1.1.1.1, h⟩))
  · exact Or.inr (Or.inr (Or.inr ⟨by unfold tailP at h; simp only [Bool.and_eq_true, beq_iff_eq] at h; exact h.1.1.1.1, h⟩))
theorem tailP_iff {p : Pg} (h : oneP p = true) : tailP p = (p.kind == 3) := by
  rcases oneP_kind h with ⟨k, _⟩ | ⟨k, _⟩ | ⟨k, _⟩ | ⟨k, t⟩
  · unfold tailP; rw [k]; rfl
  · unfold tailP; rw [k]; rfl
  · unfold tailP; rw [k]; rfl
  · rw [t, k]; rfl
theorem run_pos {p : Pg} (h : oneP p = true) (k : p.kind = 2) : 1 ≤ p.run := by
  rcases oneP_kind h with ⟨k', _⟩ | ⟨k', _⟩ | ⟨_, h2⟩ | ⟨k', _⟩
  · omega
  · omega
  · unfold headP pagesOf at h2
    simp only [Bool.and_eq_true, beq_iff_eq, decide_eq_true_eq] at h2
    omega
  · omega
/-- the program's: Tails that must come -/
def goP : Nat → List Pg → Bool
  | w, [] => w == 0
  | w, p :: l => if decide (0 < w) != tailP p then false else if 0 < w then goP (w - 1) l else if p.kind = 2 then goP (p.run - 1) l else goP 0 l
/-- the reference's: by runs -/
def refP : Nat → List Pg → Bool
  | 0, _ => true
  | _ + 1, [] => true
  | f + 1, p :: l =>
    if !oneP p || p.kind == 3 then false else
    let n := if p.kind = 2 then p.run else 1
    if n > l.length + 1 then false else
    if ((l.take (n - 1)).all fun q => oneP q && q.kind == 3) then refP f (l.drop (n - 1)) else false
theorem go_tails : ∀ (w : Nat) (l : List Pg), l.all oneP = true → goP w l = (decide (w ≤ l.length) && ((l.take w).all fun q => oneP q && q.kind == 3) && goP 0 (l.drop w)) := by
  intro w
  induction w with
  | zero => intro l _; simp
  | succ w ih =>
    intro l hl
    cases l with
    | nil => simp [goP]
    | cons p l =>
      rw [List.all_cons, Bool.and_eq_true] at hl
      rw [goP, tailP_iff hl.1]
      cases hk : (p.kind == 3) with
      | false => simp [hk]
      | true =>
        simp only [List.take_succ_cons, List.all_cons, List.drop_succ_cons, List.length_cons]
        have e0 : decide (0 < w + 1) = true := by simp
        have e1 : decide (w + 1 ≤ l.length + 1) = decide (w ≤ l.length) := by simp
        rw [e0, e1, hl.1, hk, if_neg (by simp), if_pos (by omega), Nat.add_sub_cancel, ih l hl.2]
        simp
theorem ref_go : ∀ (f : Nat) (l : List Pg), l.length ≤ f → refP f l = (l.all oneP && goP 0 l) := by
  intro f
  induction f with
  | zero => intro l h; have : l = [] := List.length_eq_zero_iff.1 (by omega); subst this; rfl
  | succ f ih =>
    intro l h
    cases l with
    | nil => rfl
    | cons p l =>
      rw [List.length_cons] at h
      rw [refP, List.all_cons, goP]
      cases ho : oneP p with
      | false => simp
      | true =>
        rw [tailP_iff ho]
        cases h3 : (p.kind == 3) with
        | true => simp
        | false =>
          simp only [Bool.not_true, Bool.false_or, Bool.true_and, Nat.lt_irrefl, decide_false, bne_self_eq_false, Bool.false_eq_true, if_false]
          by_cases h2 : p.kind = 2
          · have hr := run_pos ho h2
            simp only [if_pos h2]
            by_cases hn : p.run > l.length + 1
            · rw [if_pos hn]
              cases ha : l.all oneP with
              | false => rfl
              | true =>
                rw [go_tails _ l ha]
                have : decide (p.run - 1 ≤ l.length) = false := by simp; omega
                rw [this]; rfl
            · rw [if_neg hn]
              have hd : decide (p.run - 1 ≤ l.length) = true := by simp; omega
              have hs : l.all oneP = ((l.take (p.run - 1)).all oneP && (l.drop (p.run - 1)).all oneP) := by rw [← List.all_append, List.take_append_drop]
              cases ht : ((l.take (p.run - 1)).all fun q => oneP q && q.kind == 3) with
              | false =>
                simp only [Bool.false_eq_true, if_false]
                cases ha : l.all oneP with
                | false => rfl
                | true => rw [go_tails _ l ha, ht]; simp
              | true =>
                simp only [if_true]
                rw [ih _ (by rw [List.length_drop]; omega)]
                have h1 : (l.take (p.run - 1)).all oneP = true := by
                  rw [List.all_eq_true] at ht ⊢
                  intro q hq
                  have := ht q hq
                  rw [Bool.and_eq_true] at this
                  exact this.1
                cases ha : l.all oneP with
                | false => rw [hs, h1, Bool.true_and] at ha; rw [ha]; rfl
                | true => rw [go_tails _ l ha, ht, hd]; rw [hs, h1, Bool.true_and] at ha; rw [ha]; rfl
          · simp only [if_neg h2, Nat.sub_self, List.take_zero, List.all_nil, if_true, List.drop_zero]
            have : ¬ (1 > l.length + 1) := by omega
            rw [if_neg this, ih _ (by omega)]
end Go.Proofs.Ytpbmjfjnmcpieaa
