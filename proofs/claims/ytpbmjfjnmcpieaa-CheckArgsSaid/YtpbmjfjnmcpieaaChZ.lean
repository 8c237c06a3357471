/- slices.Clone of pages; meta.Meta.may. -/
import Derived.Test.YtpbmjfjnmcpieaaChY
set_option linter.unusedVariables false
set_option linter.unusedSimpArgs false
namespace Go.Proofs.Ytpbmjfjnmcpieaa
open Go Go.RowKit
theorem own_noneP {w : World} {base : Nat} (h : base ≤ w.heap.size) : (w.alloc (Obj.cells #[] 81)).ownsRow base 81 5 (.slice (some ⟨w.heap.size, 0, none⟩) 0 0) 0 (cellsP []) :=
  ⟨rfl, .inr ⟨w.heap.size, 0, #[], rfl, h, heap_new' _ _, Nat.le_refl _, Nat.zero_le _, rfl, rfl⟩⟩
set_option maxRecDepth 100000 in
set_option maxHeartbeats 1000000 in
theorem clonep_c (g o n cap : Nat) (M : List Pg) (hn : M.length = n) (hnm : n ≤ 1000000) (w : World) (h : PgsAt w (some ⟨g, o, none⟩) M) :
    Calls Try.prog 29 #[.slice (some ⟨g, o, none⟩) n cap] w fun e w' => ∃ v, e = .returned v ∧ w'.ownsRow w.heap.size 81 5 v n (cellsP M) ∧ Below w.heap.size w w' := by
  have HE : Hid (M.length = n) := hn
  have HN : Hid (0 + n ≤ 1000000) := by show _ ≤ _; omega
  have HOWN0 : Hid ((w.alloc (Obj.cells #[] 81)).ownsRow w.heap.size 81 5 (.slice (some ⟨w.heap.size, 0, none⟩) 0 0) 0 (cellsP [])) := own_noneP (Nat.le_refl _)
  have HBE0 : Hid (Below w.heap.size w (w.alloc (Obj.cells #[] 81))) := below_box _ _
  have HB0 : Hid (PgsAt (w.alloc (Obj.cells #[] 81)) (some ⟨g, o, none⟩) M) := h.up HBE0.out (Nat.le_refl _)
  have hnn : ∀ w : World, (binOp .eql 50 (.slice (some ⟨g, o, none⟩) n cap) (.slice none 0 0)).run Try.prog w = .ok (.bool false) w := fun w => by first | rfl | kernel_rfl | (simp [binOp, Op.equal]; done)
  clear hn h
  go_enter Try.func29, Try.ntmps29
  go_wp2_with (first
    | (refine wpList_append_pgs (v := .slice (some ⟨w.heap.size, 0, none⟩) 0 0) (base := w.heap.size) (n := 0) (L := []) rfl (.tmp 5) (.tmp 6) rfl rfl HOWN0.out rfl HE.out HB0.out (fun h => by cases h) (fun p hp => by cases hp; rfl) HN.out (by rw [World.size_alloc]; omega) ?_; intro v1 w1 hown1 hgrow1; have HOWN1 := Lib.hid hown1; have HBEL : Hid (Below w.heap.size w w1) := HBE0.out.grown hgrow1 (by rw [World.size_alloc]; omega) (fun q e => by simp [Value.ownBlock] at e; omega); clear hown1 hgrow1)
    | fail)
  go_ret
  have hown := HOWN1.out
  rw [Nat.zero_add, List.nil_append] at hown
  exact ⟨_, rfl, hown, HBEL.out⟩
/-- what is known of a heap, as a value -/
def mtA (n : Nat) (R : List Nat) (v : Value) : Array Value := (Value.int .u64 (n : Int) :: (R.map (fun (k : Nat) => Value.int .u64 (k : Int)) ++ [v])).toArray
theorem mtA_size (n : Nat) (R : List Nat) (v : Value) : (mtA n R v).size = R.length + 2 := by simp [mtA]
theorem meta18 : (Try.prog.info? 52).map (·.size) = some 18 := by kernel_rfl
theorem mtA_get0 (n : Nat) (R : List Nat) (v : Value) : (mtA n R v)[0]? = some (.int .u64 (n : Int)) := rfl
theorem mtA_get17 (n : Nat) (R : List Nat) (v : Value) (h : R.length = 16) : (mtA n R v)[17]? = some v := by
  unfold mtA
  rw [List.getElem?_toArray, List.getElem?_cons_succ, List.getElem?_append_right (by simp [h])]; simp [h]
theorem mtA_one (n : Nat) (R : List Nat) (a : Option Addr) (k c : Nat) : (mtA n R (.slice a k c)).all (·.oneCell') = true := by
  rw [← Array.all_toList]; simp [mtA, Value.oneCell']
def lateP (x : Nat) (p : Pg) : Bool := p.kind == 2 && decide (x ≤ p.ser)
def mayM (x : Nat) (P : List Pg) : Bool := decide (0 < x) && chkP P && !P.any (lateP x)
set_option maxRecDepth 100000 in
set_option maxHeartbeats 4000000 in
theorem mmay_c (x : Nat) (R : List Nat) (h16 : R.length = 16) (va : Option Addr) (n c : Nat) (t : Int) (hg : geoB n t = true) (P : List Pg) (hn : P.length = n) (hsz : ∀ p ∈ P, p.size < 4611686018427387904) (w : World) (hP : PgsAt w va P) :
    Calls Try.prog 30 #[.agg (mtA x R (.slice va n c)), .agg #[.int .i64 (n : Int), .int .i64 t]] w fun e w' => e = .returned (.bool (mayM x P)) ∧ Below w.heap.size w w' := by
  have hn64 : n ≤ 64 := by have := (geoB_iff n t).1 hg; omega
  obtain ⟨W, hW⟩ : ∃ W, W = (w.alloc (.cells (mtA x R (.slice va n c)) 52)).alloc (.cells #[.int .i64 (n : Int), .int .i64 t] 23) := ⟨_, rfl⟩
  have hm : W.heap[w.heap.size]? = some (.cells (mtA x R (.slice va n c)) 52 (0, 0)) := by rw [hW, heap_old' _ _ _ (by simp)]; exact heap_new' _ _
  have hgg : W.heap[w.heap.size + 1]? = some (.cells #[.int .i64 (n : Int), .int .i64 t] 23 (0, 0)) := by
    rw [hW, show w.heap.size + 1 = (w.alloc (.cells (mtA x R (.slice va n c)) 52)).heap.size by simp]; exact heap_new' _ _
  have hE : Below w.heap.size w W := by rw [hW]; exact (below_box w _).alloc (by simp) _
  have HM := Lib.hid hm
  have HG := Lib.hid hgg
  have HE := Lib.hid hE
  have HGC := Lib.hid (fun w => gcheck_c n t w)
  rw [show geoE n t = 0 by unfold geoE; rw [if_pos hg]] at HGC
  have HPC : Hid (∀ w', Below w.heap.size w w' → Calls Try.prog 54 #[.slice va n c] w' fun e w'' => e = .returned (.int .i64 (chkE P)) ∧ Below w'.heap.size w' w'') := fun w' h => pcheck_c va n c P hn (by omega) hsz w' (hP.up h (Nat.le_refl _))
  have HCF : Hid (∀ w', Below w.heap.size w w' → w'.heap[w.heap.size]? = some (.cells (mtA x R (.slice va n c)) 52 (0, 0)) → Calls Try.prog 31 #[.slice va n c, .func (.func 53) #[] #[.pointer (some ⟨w.heap.size, 0, none⟩)]] w' fun e w'' => e = .returned (.bool (P.any (lateP x))) ∧ Below w'.heap.size w' w'') := fun w' h hb =>
    cf_late_c va n c P hn (by omega) w.heap.size x w' (hP.up h (Nat.le_refl _)) ((cells_at hb 0).trans (mtA_get0 _ _ _)) (lt_of_block hb)
  have H16 := Lib.hid h16
  have hnn : ((n : Int) == (n : Int)) = true := beq_self_eq_true _
  clear hm hgg hE hg hn hsz hP h16 hn64
  go_enter Try.func30, Try.ntmps30
  go_wp2_with fail
  rw [← hW]
  clear hW
  refine (HGC.out W).mono ?_
  rintro e w1 ⟨rfl, hb1⟩
  have HM1 := Lib.hid ((hb1.block _ (lt_of_block HM.out)).trans HM.out)
  have HG1 := Lib.hid ((hb1.block _ (lt_of_block HG.out)).trans HG.out)
  have HE1 : Hid (Below w.heap.size w w1) := HE.out.trans (hb1.mono HE.out.size)
  have a1 := (cells_at HM1.out 0).trans (mtA_get0 _ _ _)
  have b1 := (cells_at HM1.out 17).trans (mtA_get17 _ _ _ H16.out)
  have d1 := (cells_at HG1.out 0).trans (show _ = some (Value.int .i64 (n : Int)) from rfl)
  clear hb1
  by_cases hx : 0 < x
  · have dx : decide ((x : Int) > 0) = true := by simp; omega
    have dx2 : decide (0 < x) = true := decide_eq_true hx
    have ix : 0 < (x : Int) := by omega
    have HR : Hid (mayM x P = (chkP P && !P.any (lateP x))) := by show _ = _; unfold mayM; rw [dx2, Bool.true_and]
    go_wp2_with fail
    refine (HPC.out w1 HE1.out).mono ?_
    rintro e w2 ⟨rfl, hb2⟩
    clear a1 b1 d1
    have HM2 := Lib.hid ((hb2.block _ (lt_of_block HM1.out)).trans HM1.out)
    have HG2 := Lib.hid ((hb2.block _ (lt_of_block HG1.out)).trans HG1.out)
    have HE2 : Hid (Below w.heap.size w w2) := HE1.out.trans (hb2.mono HE1.out.size)
    have a2 := (cells_at HM2.out 0).trans (mtA_get0 _ _ _)
    have b2 := (cells_at HM2.out 17).trans (mtA_get17 _ _ _ H16.out)
    have d2 := (cells_at HG2.out 0).trans (show _ = some (Value.int .i64 (n : Int)) from rfl)
    clear hb2
    cases hc : chkP P with
    | true =>
      have hce : chkE P = 0 := by unfold chkE; rw [hc]; rfl
      rw [hce]
      rw [hc, Bool.true_and] at HR
      clear hc hce
      go_wp2_with fail
      refine (HCF.out w2 HE2.out HM2.out).mono ?_
      rintro e w3 ⟨rfl, hb3⟩
      have HE3 : Hid (Below w.heap.size w w3) := HE2.out.trans (hb3.mono HE2.out.size)
      clear hb3 HCF HPC
      generalize P.any (lateP x) = r at *
      go_wp2
      go_ret
      exact ⟨by rw [HR.out]; rfl, HE3.out⟩
    | false =>
      have hce : chkE P = 4 := by unfold chkE; rw [hc]; rfl
      rw [hce]
      rw [hc, Bool.false_and] at HR
      clear hc hce
      go_wp2
      go_ret
      exact ⟨by rw [HR.out]; rfl, HE2.out⟩
  · have dx : decide ((x : Int) > 0) = false := by simp; omega
    have dx2 : decide (0 < x) = false := decide_eq_false hx
    have ix : ¬ 0 < (x : Int) := by omega
    have HR : Hid (mayM x P = false) := by show _ = _; unfold mayM; rw [dx2]; rfl
    go_wp2
    go_ret
    exact ⟨by rw [HR.out]; rfl, HE1.out⟩
end Go.Proofs.Ytpbmjfjnmcpieaa
