/- Print: the acts' text. Printed by gen_lnpt.py. -/
import Derived.Test.YteennbdakjjcfaaDoorLnOu
set_option linter.unusedVariables false
set_option linter.unusedSimpArgs false
namespace Go.Proofs.YteennbdakjjcfaaDoor
open Go Go.RowKit Go.Lib
theorem Bld.up {w w' : World} {B b : Nat} {l : List UInt8} (h : Bld w B b l) (hb : Below w.heap.size w w') : Bld w' B b l := by
  unfold Bld IsBuilder at h ⊢
  have k : ∀ p, BuilderAt 71 5 B b p (Lib.byteCells l) w → BuilderAt 71 5 B b p (Lib.byteCells l) w' := fun p q => by
    have hl := q.lt
    obtain ⟨h1, v, h2, h3, h4⟩ := q
    exact ⟨h1, v, (hb.block _ hl).trans h2, own_up h3 hb, h4⟩
  exact h.imp (k _) (k _)
def textL (L : List AN) : List UInt8 := L.flatMap fun a => lineA a.kind.toNat a ++ [10]
theorem textL_snoc (L : List AN) (a : AN) : textL (L ++ [a]) = textL L ++ (lineA a.kind.toNat a ++ [10]) := by unfold textL; rw [List.flatMap_append]; simp
theorem textL_len (L : List AN) (h : ∀ a ∈ L, a.b.length ≤ 1030) : (textL L).length ≤ L.length * 6300 := by
  unfold textL
  induction L with
  | nil => simp
  | cons a L ih =>
    rw [List.flatMap_cons, List.length_append, List.length_append, List.length_singleton, List.length_cons]
    have h1 := ih (fun x hx => h x (List.mem_cons_of_mem _ hx))
    have h2 := h a List.mem_cons_self
    have h3 := line_len a.kind.toNat a
    omega
theorem txt_textL (L : List AN) (hm : ∀ a ∈ L, mayL a = true) (hb : ∀ a ∈ L, ∀ x ∈ a.b, x < 256) : Txt (textL L) L := by
  induction L with
  | nil => exact txt_nil
  | cons a L ih =>
    have h1 := ih (fun x hx => hm x (List.mem_cons_of_mem _ hx)) (fun x hx => hb x (List.mem_cons_of_mem _ hx))
    have h2 := hm a List.mem_cons_self
    have h3 := (mayL_num h2).1
    have h4 := txt_of a a.kind.toNat (by omega) (by omega) h2 (hb a List.mem_cons_self) [] [] (Or.inl rfl) (by simp) tl_nil
    have h5 := Txt.app h4 h1
    have e : textL (a :: L) = ([] ++ lineA a.kind.toNat a ++ [] ++ [10]) ++ textL L := by unfold textL; rw [List.flatMap_cons]; simp
    rw [e]
    exact h5
def prS (L : List AN) : List UInt8 := if L.all mayL = true then textL L else []
def prE (L : List AN) : Int := if L.all mayL = true then 0 else 1
set_option maxRecDepth 100000 in
set_option maxHeartbeats 8000000 in
theorem lprint_c (L : List AN) (hL : L.length ≤ 100) (hLB : ∀ a ∈ L, a.b.length ≤ 1030) (p1 : Nat) (v1 : Value) (w : World) (h1 : ActsAt w p1 44 v1 L) :
    Calls Tryd.prog 16 #[v1] w fun e w' => e = .returned (.tuple #[sV (prS L), .int .i64 (prE L)]) ∧ Below w.heap.size w w' := by
  obtain ⟨s1, d1, e1⟩ := h1.len
  subst e1
  obtain ⟨n, hn⟩ : ∃ n, n = L.length := ⟨_, rfl⟩
  have HGET : Hid (∀ i x, L[i]? = some x → x.b.length ≤ 1030 ∧ ∃ g1 u1, s1 = some ⟨g1, 0, none⟩ ∧ g1 < w.heap.size ∧ w.rangeAt g1 (i * 7) (rowA (x, u1)) ∧ Byt w none x u1) := fun i x hx => by
    have hmx := hLB x (List.mem_of_getElem? hx)
    obtain ⟨hi', rfl⟩ := List.getElem?_eq_some_iff.1 hx
    obtain ⟨g1, c1, u1, q1, q2, q3, q4, q5⟩ := h1.get i hi'
    injection q1 with q1 _ _
    obtain ⟨x1, x2, x3, x4, x5, x6⟩ := q5
    exact ⟨hmx, g1, u1, q1, q2, q4, ⟨x1, x2, x3, x4, x5, fun _ _ _ _ _ h => by cases h⟩⟩
  have HNL : Hid (n ≤ 100) := by show _ ≤ _; rw [hn]; exact hL
  have HNE := Lib.hid hn
  have HLB := Lib.hid hLB
  have HF : Hid (Bld (w.alloc (.cells #[.pointer none, .slice none 0 0] 71)) w.heap.size w.heap.size []) := bld_fresh w
  have HB0 : Hid (Below w.heap.size w (w.alloc (.cells #[.pointer none, .slice none 0 0] 71))) := (Below.refl _ _).alloc (Nat.le_refl _) _
  rw [← hn]
  clear h1 hL hLB hn
  go_enter Tryd.func16, Tryd.ntmps16
  go_wp2
  go_loopw [11] (fun vi wr => ∃ i : Nat, i ≤ n ∧ vi = .int .i64 (i : Int) ∧ Hid ((L.take i).all mayL = true) ∧ Hid (Bld wr w.heap.size w.heap.size (textL (L.take i))) ∧ Hid (Below w.heap.size w wr)) (fun vi _ => n - (intOf vi).toNat)
  case atStart => exact ⟨0, Nat.zero_le _, rfl, by rw [List.take_zero]; rfl, by rw [List.take_zero]; exact HF.out, HB0.out⟩
  case round =>
    clear HF HB0
    obtain ⟨i, hi, rfl, hall, hbd, hbel⟩ := hrel
    by_cases hlt : i < n
    · have hd : decide ((i : Int) < (n : Int)) = true := by simp; omega
      have dl : (i : Int) < (n : Int) := by omega
      have dk0 : ¬ (i : Int) < 0 := by omega
      have hiL : i < L.length := by rw [← HNE.out]; exact hlt
      obtain ⟨a, hx⟩ : ∃ x, L[i]? = some x := ⟨_, List.getElem?_eq_getElem hiL⟩
      obtain ⟨hbl, g1, u1, hs1, hg1, hr1, hb1⟩ := HGET.out i a hx
      have htk : L.take (i + 1) = L.take i ++ [a] := by obtain ⟨_, h9⟩ := List.getElem?_eq_some_iff.1 hx; rw [List.take_succ_eq_append_getElem hiL, h9]
      have HMEM : Hid (a ∈ L) := List.mem_of_getElem? hx
      have HTX : Hid (textL (L.take (i + 1)) = textL (L.take i) ++ (lineA a.kind.toNat a ++ [10])) := by show _ = _; rw [htk, textL_snoc]
      have HAL : Hid (mayL a = true → (L.take (i + 1)).all mayL = true) := fun h => by rw [htk, List.all_append, hall.out]; simp [h]
      obtain ⟨X, hX⟩ : ∃ X, X = textL (L.take i) := ⟨_, rfl⟩
      have HXL : Hid (X.length ≤ 630000) := by
        have h9 := textL_len (L.take i) (fun x hx' => HLB.out x (List.mem_of_mem_take hx'))
        rw [← hX, List.length_take] at h9
        have := HNL.out
        show _ ≤ _
        omega
      rw [← hX] at HTX hbd
      obtain ⟨va, vc, hu1, hy1, hnil, _⟩ := hb1
      subst hu1
      obtain ⟨un, hun⟩ : ∃ m, m = a.b.length := ⟨_, rfl⟩
      rw [← hun] at hr1 hbl
      subst hs1
      have HR1 : Hid (wr.rangeAt g1 (i * 7) (rowA (a, .slice va un vc))) := range_up hr1 hbel.out hg1
      have HY1 : Hid (BytesAt wr va vc a.b) := hy1.up hbel.out (Nat.le_refl _)
      have HNI := Lib.hid hnil
      have ek : IntKind.i64.wrap ((i : Int) + 1) = (i : Int) + 1 := by have := HNL.out; exact IntWalk.i64_in _ (by omega)
      have HI := Lib.hid hlt
      have HUN : Hid (a.b.length = un) := hun.symm
      have HBL := Lib.hid hbl
      clear hr1 hy1 hnil hun hx hg1 hi hlt hiL hbl htk hX
      go_upto_region 5 with (first
        | (refine wpList_load_mid rfl 44 (.tmp 13) rfl g1 (i * 7) rfl (rowA (a, .slice va un vc)) _ HR1.out Tryd.underlying44 rfl (by rw [act44]; rfl) ?_)
        | (refine wpList_store_row rfl 44 (.tmp 6) (.tmp 14) rfl wr.heap.size (actA a (.slice va un vc)) rfl rfl 44 _ (heap_new' _ _) (by rw [act44]; rfl) (by rfl) (actA_one _ _ _ _) ?_)
        | fail)
      have HC5 : Hid (((wr.alloc (.cells #[.int .i64 0, .bool false, .int .i64 0, .int .i64 0, .int .i64 0, .int .i64 0, .slice none 0 0] 44)).setRow wr.heap.size (actA a (.slice va un vc))).heap[wr.heap.size]? = some (.cells (actA a (.slice va un vc)) 44 (0, 0))) := setRow_heap _ _ _ _ _ _ (heap_new' _ _)
      have HB5 : Hid (Below wr.heap.size wr ((wr.alloc (.cells #[.int .i64 0, .bool false, .int .i64 0, .int .i64 0, .int .i64 0, .int .i64 0, .slice none 0 0] 44)).setRow wr.heap.size (actA a (.slice va un vc)))) := below_setRow ((Below.refl _ _).alloc (Nat.le_refl _) _) (Nat.le_refl _) _
      generalize (wr.alloc (.cells #[.int .i64 0, .bool false, .int .i64 0, .int .i64 0, .int .i64 0, .int .i64 0, .slice none 0 0] 44)).setRow wr.heap.size (actA a (.slice va un vc)) = w5 at *
      have HBD5 : Hid (Bld w5 w.heap.size w.heap.size X) := hbd.out.up HB5.out
      have HBF5 : Hid (Below w.heap.size w w5) := hbel.out.trans (HB5.out.mono hbel.out.size)
      have HY5 : Hid (BytesAt w5 va vc a.b) := HY1.out.up HB5.out (Nat.le_refl _)
      generalize wr.heap.size = ab at *
      clear hbd hbel HB5 HR1 HY1
      obtain ⟨mb, hmb⟩ : ∃ b, b = mayL a := ⟨_, rfl⟩
      rw [← hmb] at HAL
      have HMB := Lib.hid hmb
      clear hmb
      simp only [Act.put]
      go_wp2_with (first
        | (refine wpList_load_row rfl 44 (.tmp 6) rfl ab rfl _ _ _ _ HC5.out Tryd.underlying44 rfl (by rw [act44]; rfl) ?_)
        | fail)
      cases mb with
      | true =>
        obtain ⟨k, hk⟩ : ∃ k, k = a.kind.toNat := ⟨_, rfl⟩
        have HMAY := mayL_num HMB.out.symm
        have hk20 : k < 20 := by omega
        have hak : a.kind = (k : Int) := by omega
        rw [← hk] at HTX
        obtain ⟨Y, hY⟩ : ∃ Y, Y = lineA k a := ⟨_, rfl⟩
        rw [← hY] at HTX
        have HYL : Hid (Y.length ≤ 6300) := by
          have h9 := line_len k a
          rw [← hY, HUN.out] at h9
          have := HBL.out
          show _ ≤ _
          omega
        have HYE := Lib.hid hY
        refine (lline_c k hk20 a hak va un vc HUN.out (by have := HBL.out; omega) HNI.out HMB.out.symm w5 HY5.out).mono ?_
        rintro e w6 ⟨rfl, hb6⟩
        rw [← HYE.out]
        have HBD6 : Hid (Bld w6 w.heap.size w.heap.size X) := HBD5.out.up hb6
        have HBF6 : Hid (Below w.heap.size w w6) := HBF5.out.trans (hb6.mono HBF5.out.size)
        clear hk hk20 hak hY HMAY hb6 HBD5 HBF5 HY5 HC5
        have l1 : Y.length + 1 ≤ 9223372036854775807 := by have := HYL.out; omega
        have l2 : Y.length ≤ 9223372036854775806 := by omega
        go_wp2_with fail
        refine (bld_str w.heap.size w.heap.size X (Y ++ [10]) w6 HBD6.out (by have := HXL.out; have := HYL.out; rw [List.length_append, List.length_singleton]; omega) HBF6.out.size).mono ?_
        rintro e w7 ⟨⟨v7, rfl⟩, hbd7, hb7⟩
        have HBD7 := Lib.hid hbd7
        have HBF7 : Hid (Below w.heap.size w w7) := HBF6.out.trans hb7
        clear hbd7 hb7 HBD6 HBF6
        go_wp2
        go_roundw
        case rel => exact ⟨i + 1, by have := HI.out; omega, by go_num, HAL.out (by first | rfl | trivial), by rw [HTX.out]; exact HBD7.out, HBF7.out⟩
        case measure => simp [intOf]; have := HI.out; omega
      | false =>
        refine (lline_no a va un vc HUN.out HNI.out HMB.out.symm w5).mono ?_
        rintro e w6 ⟨rfl, hb6⟩
        have HBF6 : Hid (Below w.heap.size w w6) := HBF5.out.trans (hb6.mono HBF5.out.size)
        have HNO : Hid (L.all mayL = false) := by
          show _ = _
          rw [List.all_eq_false]
          exact ⟨a, HMEM.out, by rw [← HMB.out]; simp⟩
        clear hb6 HBD5 HBF5 HY5 HC5
        go_wp2
        go_ret2
        exact ⟨by unfold prS prE; rw [HNO.out]; rfl, HBF6.out⟩
    · have hd : decide ((i : Int) < (n : Int)) = false := by simp; omega
      have dl : ¬ (i : Int) < (n : Int) := by omega
      have htk : L.take i = L := List.take_of_length_le (by rw [← HNE.out]; omega)
      rw [htk] at hbd hall
      have HS : Hid (prS L = textL L ∧ prE L = 0) := by unfold prS prE; rw [hall.out]; exact ⟨rfl, rfl⟩
      clear htk hall
      obtain ⟨Y, hY⟩ : ∃ Y, Y = textL L := ⟨_, rfl⟩
      rw [← hY] at hbd HS
      clear hY
      go_wp2_with fail
      refine (bld_done w.heap.size w.heap.size Y wr hbd.out hbel.out.size).mono ?_
      rintro e w1 ⟨rfl, hbl1⟩
      have HBE1 : Hid (Below w.heap.size w w1) := hbel.out.trans hbl1
      clear hbl1 hbd hbel
      go_wp2
      go_ret2
      exact ⟨by rw [HS.out.1, HS.out.2]; rfl, HBE1.out⟩
end Go.Proofs.YteennbdakjjcfaaDoor
