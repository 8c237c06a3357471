/- The reference's act of a line's words. Printed by gen_lnu.py. -/
import Derived.Test.YteennbdakjjcfaaDoorLnT
set_option linter.unusedVariables false
set_option linter.unusedSimpArgs false
namespace Go.Proofs.YteennbdakjjcfaaDoor
open Go Go.RowKit Go.Lib
/-- the reference's act in memory -/
def RAt (w : World) (ab : Nat) (a : AN) : Prop := ∃ va vc, w.heap[ab]? = some (.cells (actA a (.slice va a.b.length vc)) 27 (0, 0)) ∧ BytesAt w va vc a.b ∧ (va = none → vc = 0) ∧ ∀ g o z, va = some ⟨g, o, z⟩ → ab < g
theorem RAt.set {w : World} {ab : Nat} {a a' : AN} (h : RAt w ab a) (hb : a'.b = a.b) (o : Nat) (v : Value) (he : ∀ u, (actA a u).setIfInBounds o v = actA a' u) : RAt (w.setCell ⟨ab, o, none⟩ v) ab a' := by
  obtain ⟨va, vc, h1, h2, h3, h4⟩ := h
  refine ⟨va, vc, ?_, ?_, h3, h4⟩
  · rw [block_at h1 o v, he, hb]
  · rw [hb]
    exact bytes_keep h2 (fun g o hg hl => Below.heap_setCell _ _ _ _ (by have := h4 _ _ _ hg; show g ≠ ab; omega))
theorem RAt.setB {w : World} {ab : Nat} {a : AN} (h : RAt w ab a) (l : List Nat) (va : Option Addr) (vc : Nat) (hB : BytesAt w va vc l) (hn : va = none → vc = 0) (hg : ∀ g o z, va = some ⟨g, o, z⟩ → ab < g) :
    RAt (w.setCell ⟨ab, 6, none⟩ (.slice va l.length vc)) ab { a with b := l } := by
  obtain ⟨va', vc', h1, h2, h3, h4⟩ := h
  refine ⟨va, vc, ?_, ?_, hn, hg⟩
  · rw [block_at h1 6 _]; simp [actA]
  · exact bytes_keep hB (fun g o hg' hl => Below.heap_setCell _ _ _ _ (by have := hg _ _ _ hg'; show g ≠ ab; omega))
theorem RAt.cells {w : World} {ab : Nat} {a : AN} (h : RAt w ab a) : w.frozen? ⟨ab, 1, none⟩ = false ∧ w.frozen? ⟨ab, 2, none⟩ = false ∧ w.frozen? ⟨ab, 3, none⟩ = false ∧ w.frozen? ⟨ab, 4, none⟩ = false ∧ w.frozen? ⟨ab, 5, none⟩ = false ∧ w.frozen? ⟨ab, 6, none⟩ = false ∧ (∃ v, w.cell? ⟨ab, 1, none⟩ = some v) ∧ (∃ v, w.cell? ⟨ab, 2, none⟩ = some v) ∧ (∃ v, w.cell? ⟨ab, 3, none⟩ = some v) ∧ (∃ v, w.cell? ⟨ab, 4, none⟩ = some v) ∧ (∃ v, w.cell? ⟨ab, 5, none⟩ = some v) ∧ ∃ v, w.cell? ⟨ab, 6, none⟩ = some v := by
  obtain ⟨va, vc, h1, h2, h3, h4⟩ := h
  exact ⟨free_at h1 _, free_at h1 _, free_at h1 _, free_at h1 _, free_at h1 _, free_at h1 _, ⟨_, cells_at h1 1⟩, ⟨_, cells_at h1 2⟩, ⟨_, cells_at h1 3⟩, ⟨_, cells_at h1 4⟩, ⟨_, cells_at h1 5⟩, ⟨_, cells_at h1 6⟩⟩
theorem RAt.up {w w' : World} {ab : Nat} {a : AN} (h : RAt w ab a) (hb : Below w.heap.size w w') : RAt w' ab a := by
  obtain ⟨va, vc, h1, h2, h3, h4⟩ := h
  exact ⟨va, vc, (hb.block _ (lt_of_block h1)).trans h1, h2.up hb (Nat.le_refl _), h3, h4⟩
theorem RAt.lt {w : World} {ab : Nat} {a : AN} (h : RAt w ab a) : ab < w.heap.size := by obtain ⟨va, vc, h1, _⟩ := h; exact lt_of_block h1
def kdA (kd : Int) : AN := ⟨kd, false, 0, 0, 0, 0, []⟩
theorem nameK_inj : ∀ i : Nat, i < 20 → ∀ j : Nat, j < 20 → nameK i = nameK j → i = j := by decide +kernel
theorem order_s : ∀ k : Nat, k < 20 → ∀ i : Nat, i < 3 → ((orderK k).getD i 0 = 119 ∨ (orderK k).getD i 0 = 115) → (115 : UInt8) ∉ (orderK k).drop (i + 1) := by decide +kernel
theorem yes_which {a : AN} (h : a.which = 0) : ({ a with yes := true, which := 0 } : AN) = { a with yes := true } := by
  obtain ⟨k, y, wh, kk, n, at_, b⟩ := a
  have h' : wh = 0 := h
  rw [h']
theorem foldN_none (f : List UInt8) : foldN none f = none := by
  induction f with
  | nil => rfl
  | cons c f ih => exact ih
theorem stepN_some (a : AN) (y : List UInt8) (rest : List (List UInt8)) (c : Nat) : stepN (some (a, y :: rest)) c = (takeN a c y).map fun a' => (a', rest) := rfl
theorem stepN_len {s : Option (AN × List (List UInt8))} {c : Nat} {p : AN × List (List UInt8)} (h : stepN s c = some p) : ∃ q, s = some q ∧ q.2.length = p.2.length + 1 := by
  cases s with
  | none => cases h
  | some q =>
    obtain ⟨a, ws⟩ := q
    cases ws with
    | nil => cases h
    | cons y ws =>
      rw [stepN_some] at h
      obtain ⟨a', _, rfl⟩ := Option.map_eq_some_iff.1 h
      exact ⟨_, rfl, rfl⟩
theorem foldN_len : ∀ (f : List UInt8) (s : Option (AN × List (List UInt8))) (p : AN × List (List UInt8)), foldN s f = some p → ∃ q, s = some q ∧ q.2.length = p.2.length + f.length
  | [], s, p, h => ⟨p, h, rfl⟩
  | c :: f, s, p, h => by
    obtain ⟨q, h1, h2⟩ := foldN_len f (stepN s c.toNat) p h
    obtain ⟨q2, h3, h4⟩ := stepN_len h1
    exact ⟨q2, h3, by rw [h4, h2, List.length_cons]; omega⟩
theorem end_len {a : AN} {ws : List (List UInt8)} {f : List UInt8} (h : ws.length ≠ f.length) : endN (foldN (some (a, ws)) f) = none := by
  cases hs : foldN (some (a, ws)) f with
  | none => rfl
  | some p =>
    obtain ⟨q, h1, h2⟩ := foldN_len f _ p hs
    cases h1
    unfold endN
    show (if p.2 = [] ∧ _ then _ else _) = _
    rw [if_neg]
    intro h3
    rw [h3.1] at h2
    simp at h2
    exact h h2
def RActP (ws : List (List UInt8)) (w : World) (e : Ending) (w' : World) : Prop := Below w.heap.size w w' ∧ ∃ a va vc, e = .returned (.tuple #[.agg (actA a (.slice va a.b.length vc)), .bool (actN ws).isSome]) ∧
  ∀ a', actN ws = some a' → a' = a ∧ BytesAt w' va vc a.b ∧ (va = none → vc = 0) ∧ ∀ g o z, va = some ⟨g, o, z⟩ → w.heap.size ≤ g
set_option maxRecDepth 100000 in
set_option maxHeartbeats 16000000 in
theorem ract_c (x : List UInt8) (ws : List (List UInt8)) (hws : ∀ y ∈ ws, y.length ≤ 1000000) (n g cap B : Nat) (w : World) (hn : n = ws.length + 1) (hn9 : n ≤ 1000000) (hown : w.ownsRow B 9 1 (.slice (some ⟨g, 0, none⟩) n cap) n ((x :: ws).map sV)) :
    Calls Tryd.prog 28 #[.slice (some ⟨g, 0, none⟩) n cap] w (RActP (x :: ws) w) := by
  obtain ⟨r, hr⟩ : ∃ r, r = w.heap.size := ⟨_, rfl⟩
  have HCEL : Hid (∀ w', Below r w w' → ∀ i y, (x :: ws)[i]? = some y → w'.cell? ⟨g, i, none⟩ = some (sV y)) := fun w' hb i y hy => by
    have hi : i < (x :: ws).length := (List.getElem?_eq_some_iff.1 hy).1
    have h1 := hown.cellAt i (by rw [hn]; simpa using hi)
    have hg := (hown.lt g rfl).2
    rw [hb.cell (p := ⟨g, i, none⟩) (by rw [hr]; exact hg), h1, List.getElem?_map, hy]
    rfl
  have HW0 : Hid ((w.alloc (.cells #[.int .i64 0, .bool false, .int .i64 0, .int .i64 0, .int .i64 0, .int .i64 0, .slice none 0 0] 27)).heap[r]? = some (.cells #[.int .i64 0, .bool false, .int .i64 0, .int .i64 0, .int .i64 0, .int .i64 0, .slice none 0 0] 27 (0, 0))) := by rw [hr]; exact heap_new' _ _
  have HE0 : Hid (Below r w (w.alloc (.cells #[.int .i64 0, .bool false, .int .i64 0, .int .i64 0, .int .i64 0, .int .i64 0, .slice none 0 0] 27))) := (Below.refl _ _).alloc (by rw [hr]; exact Nat.le_refl _) _
  have HS0 : Hid ((w.alloc (.cells #[.int .i64 0, .bool false, .int .i64 0, .int .i64 0, .int .i64 0, .int .i64 0, .slice none 0 0] 27)).heap.size = r + 1) := by show _ = _; rw [hr]; simp
  have HRW := Lib.hid hr
  have HN := Lib.hid hn
  have HWL := Lib.hid hws
  have HORD := Lib.hid (fun k hk w => order19_c k hk w)
  have h64 : (n : Int) ≤ 1000000 := by omega
  clear hown hn hws
  go_enter Tryd.func28, Tryd.ntmps28
  go_upto_region 1 with fail
  rw [← hr]
  clear hr
  generalize w.alloc (.cells #[.int .i64 0, .bool false, .int .i64 0, .int .i64 0, .int .i64 0, .int .i64 0, .slice none 0 0] 27) = w0 at *
  obtain ⟨A1, hA1⟩ : ∃ A1, A1 = w0.heap.size := ⟨_, rfl⟩
  have HRA : Hid (r < A1) := by show _ < _; rw [hA1, HS0.out]; omega
  go_upto_region 2 with (first
    | (refine wpList_store_row rfl 27 (.tmp 4) (.tmp 12) rfl w0.heap.size (actA (kdA (-1)) nilV) rfl rfl 27 _ (heap_new' _ _) (by rw [act27]; rfl) (by rfl) (actA_one _ _ _ _) ?_)
    | fail)
  have HC1 : Hid (((w0.alloc (.cells #[.int .i64 0, .bool false, .int .i64 0, .int .i64 0, .int .i64 0, .int .i64 0, .slice none 0 0] 27)).setRow w0.heap.size (actA (kdA (-1)) nilV)).heap[A1]? = some (.cells (actA (kdA (-1)) nilV) 27 (0, 0))) := by rw [hA1]; exact setRow_heap _ _ _ _ _ _ (heap_new' _ _)
  have HR1 : Hid (((w0.alloc (.cells #[.int .i64 0, .bool false, .int .i64 0, .int .i64 0, .int .i64 0, .int .i64 0, .slice none 0 0] 27)).setRow w0.heap.size (actA (kdA (-1)) nilV)).heap[r]? = some (.cells #[.int .i64 0, .bool false, .int .i64 0, .int .i64 0, .int .i64 0, .int .i64 0, .slice none 0 0] 27 (0, 0))) := (setRow_other _ _ _ _ (by have := HRA.out; omega)).trans ((heap_old' _ _ _ (lt_of_block HW0.out)).trans HW0.out)
  have HB1 : Hid (Below r w ((w0.alloc (.cells #[.int .i64 0, .bool false, .int .i64 0, .int .i64 0, .int .i64 0, .int .i64 0, .slice none 0 0] 27)).setRow w0.heap.size (actA (kdA (-1)) nilV))) := below_setRow (HE0.out.alloc (Nat.le_of_lt (lt_of_block HW0.out)) _) (Nat.le_of_lt (lt_of_block HW0.out)) _
  generalize (w0.alloc (.cells #[.int .i64 0, .bool false, .int .i64 0, .int .i64 0, .int .i64 0, .int .i64 0, .slice none 0 0] 27)).setRow w0.heap.size (actA (kdA (-1)) nilV) = w1 at *
  rw [← hA1]
  clear hA1 HW0 HE0 HS0
  go_wp2_with fail
  refine (names_c w1).mono ?_
  rintro e w2 ⟨gn, rfl, hgn, hbn⟩
  have HC2 : Hid (w2.heap[A1]? = some (.cells (actA (kdA (-1)) nilV) 27 (0, 0))) := (hbn.block _ (lt_of_block HC1.out)).trans HC1.out
  have HR2 : Hid (w2.heap[r]? = some (.cells #[.int .i64 0, .bool false, .int .i64 0, .int .i64 0, .int .i64 0, .int .i64 0, .slice none 0 0] 27 (0, 0))) := (hbn.block _ (lt_of_block HR1.out)).trans HR1.out
  have HB2 : Hid (Below r w w2) := HB1.out.trans (hbn.mono (Nat.le_of_lt (lt_of_block HR1.out)))
  have HGN := Lib.hid hgn
  have HGA : Hid (gn ≠ A1) := fun e => by
    subst e
    have h1 := hgn
    rw [HC2.out] at h1
    injection h1 with h1
    injection h1 with _ h2 _
    exact absurd h2 (by decide)
  clear hbn hgn HC1 HR1 HB1
  go_wp2
  go_loopw [15] (fun vi wr => ∃ (i : Nat) (kd : Int), i ≤ 20 ∧ vi = .int .i64 (i : Int) ∧ Hid (wr.heap[A1]? = some (.cells (actA (kdA kd) nilV) 27 (0, 0))) ∧ Hid (wr.heap[gn]? = some (.cells namesA 9 (0, 0))) ∧ Hid (wr.heap[r]? = some (.cells #[.int .i64 0, .bool false, .int .i64 0, .int .i64 0, .int .i64 0, .int .i64 0, .slice none 0 0] 27 (0, 0))) ∧ Hid (Below r w wr) ∧ Hid ((kd = -1 ∧ ∀ j, j < i → nameK j ≠ x) ∨ ∃ j, j < i ∧ nameK j = x ∧ kd = (j : Int))) (fun vi _ => 20 - (intOf vi).toNat)
  case atStart => exact ⟨0, -1, by omega, rfl, HC2.out, HGN.out, HR2.out, HB2.out, Or.inl ⟨rfl, fun j h => by omega⟩⟩
  case round =>
    clear HC2 HGN HR2 HB2
    obtain ⟨i, kd, hi, rfl, hkd, hgn, hrw, hbel, hfound⟩ := hrel
    by_cases hlt : i < 20
    · have hd : decide ((i : Int) < 20) = true := by simp; omega
      have dl : (i : Int) < 20 := by omega
      have dk0 : ¬ (i : Int) < 0 := by omega
      have cn := (cells_at hgn.out i).trans (names_get i hlt)
      have cx := HCEL.out wr hbel.out 0 x rfl
      have n0 : (0 : Int) < (n : Int) := by have := HN.out; omega
      have ca := (cells_at hkd.out 0).trans (show _ = some (Value.int .i64 kd) from rfl)
      have fa := free_at hkd.out 0
      obtain ⟨nm, hnm⟩ : ∃ x, x = nameK i := ⟨_, rfl⟩
      rw [← hnm] at cn
      have HNM := Lib.hid hnm
      have HI := Lib.hid hlt
      have ek : IntKind.i64.wrap ((i : Int) + 1) = (i : Int) + 1 := IntWalk.i64_in _ (by omega)
      clear hnm hlt hi
      by_cases hx : nm = x
      · have dx : decide (nm = x) = true := by simpa using hx
        have HX := Lib.hid hx
        have HK2 : Hid ((wr.setCell ⟨A1, 0, none⟩ (.int .i64 (i : Int))).heap[A1]? = some (.cells (actA (kdA (i : Int)) nilV) 27 (0, 0))) := by show _ = _; rw [block_at hkd.out 0]; simp [actA, kdA]
        have HG2 : Hid ((wr.setCell ⟨A1, 0, none⟩ (.int .i64 (i : Int))).heap[gn]? = some (.cells namesA 9 (0, 0))) := (Below.heap_setCell _ _ _ _ (by simpa using HGA.out)).trans hgn.out
        have HR2 : Hid ((wr.setCell ⟨A1, 0, none⟩ (.int .i64 (i : Int))).heap[r]? = some (.cells #[.int .i64 0, .bool false, .int .i64 0, .int .i64 0, .int .i64 0, .int .i64 0, .slice none 0 0] 27 (0, 0))) := (Below.heap_setCell _ _ _ _ (by have := HRA.out; show r ≠ A1; omega)).trans hrw.out
        have HB2 : Hid (Below r w (wr.setCell ⟨A1, 0, none⟩ (.int .i64 (i : Int)))) := hbel.out.setCell (by have := HRA.out; show r ≤ A1; omega) _
        clear hx hfound hkd hgn hrw hbel
        go_wp2
        go_roundw
        case rel => exact ⟨i + 1, (i : Int), by have := HI.out; omega, by go_num, HK2.out, HG2.out, HR2.out, HB2.out, Or.inr ⟨i, by omega, by rw [← HNM.out]; exact HX.out, rfl⟩⟩
        case measure => simp [intOf]; have := HI.out; omega
      · have dx : decide (nm = x) = false := by simpa using hx
        have HF2 : Hid ((kd = -1 ∧ ∀ j, j < i + 1 → nameK j ≠ x) ∨ ∃ j, j < i + 1 ∧ nameK j = x ∧ kd = (j : Int)) := by
          rcases hfound.out with ⟨h1, h2⟩ | ⟨j, h1, h2, h3⟩
          · refine Or.inl ⟨h1, fun j hj => ?_⟩
            rcases Nat.lt_or_eq_of_le (Nat.le_of_lt_succ hj) with h | h
            · exact h2 j h
            · subst h; rw [← HNM.out]; exact hx
          · exact Or.inr ⟨j, by omega, h2, h3⟩
        clear hx hfound
        go_wp2
        go_roundw
        case rel => exact ⟨i + 1, kd, by have := HI.out; omega, by go_num, hkd.out, hgn.out, hrw.out, hbel.out, HF2.out⟩
        case measure => simp [intOf]; have := HI.out; omega
    · have hd : decide ((i : Int) < 20) = false := by simp; omega
      have dl : ¬ (i : Int) < 20 := by omega
      have hi20 : i = 20 := by omega
      have HRR := Lib.hid hrw.out
      have HBR := Lib.hid hbel.out
      have ca := (cells_at hkd.out 0).trans (show _ = some (Value.int .i64 kd) from rfl)
      rcases hfound.out with ⟨h1, h2⟩ | ⟨k, h1, h2, h3⟩
      · have HAN1 : Hid (actN (x :: ws) = none) := by show _ = _; rw [actN_cons, kindN_miss (fun j hj => h2 j (by omega))]; rfl
        have hneg : decide (kd < 0) = true := by simp; omega
        have hneg2 : kd < 0 := by omega
        clear h1 h2 hfound hi20 hlt hi hkd hgn hrw hbel
        have HAN : Hid (actN (x :: ws) = none) := HAN1.out
        go_wp2_with (first
          | (refine wpList_store_row rfl 27 (.tmp 2) (.tmp 41) rfl r (actA zeroAct nilV) rfl rfl 27 _ HRR.out (by rw [act27]; rfl) (by rfl) (actA_one _ _ _ _) ?_)
          | fail)
        refine bodyPost_ret (results_row_tmp rfl _ _ r 27 (actA zeroAct nilV) (0, 0) _ rfl (setRow_heap _ _ _ _ _ _ HRR.out) Tryd.underlying27 rfl (by rw [act27]; rfl)) rfl ?_
        exact ⟨by rw [← HRW.out]; exact below_setRow HBR.out (Nat.le_refl _) _, zeroAct, none, 0, by rw [HAN.out]; rfl, fun a' ha => by rw [HAN.out] at ha; cases ha⟩
      · have hk20 : k < 20 := by omega
        have HKN : Hid (kindN x = some k) := kindN_hit hk20 h2 (fun j hj e => by have := nameK_inj j (by omega) k hk20 (e.trans h2.symm); omega)
        have HORK := Lib.hid (HORD.out k hk20)
        have hol := order_len k
        have HSG := Lib.hid (order_signs k)
        have HSO := Lib.hid (order_s k hk20)
        obtain ⟨f, hf⟩ : ∃ f, f = orderK k := ⟨_, rfl⟩
        have HAN1 : Hid (actN (x :: ws) = endN (foldN (some (startA k, ws)) f)) := by show _ = _; rw [actN_cons, HKN.out, hf]; rfl
        rw [← hf] at HORK hol HSG HSO
        subst h3
        have hneg : decide ((k : Int) < 0) = false := by simp
        have hneg2 : ¬ (k : Int) < 0 := by omega
        obtain ⟨m, hm⟩ : ∃ m, m = f.length := ⟨_, rfl⟩
        have HM := Lib.hid hm
        rw [← hm] at hol
        have hlx : f.length = m := hm.symm
        have ek : IntKind.i64.wrap (1 + (m : Int)) = 1 + (m : Int) := IntWalk.i64_in _ (by omega)
        have HAT0 : Hid (RAt wr A1 (startA k)) := ⟨none, 0, hkd.out, ⟨(fun x h => by cases h), (fun h => by cases h)⟩, fun _ => rfl, (fun _ _ _ h => by cases h)⟩
        have HM3 : Hid (m ≤ 3) := hol
        clear h1 h2 hfound hi20 hlt hi hkd hgn hrw hbel hf hm HKN hol hk20
        by_cases hlen : n = 1 + m
        · have HWM : Hid (ws.length = m) := by show _ = _; have := HN.out; omega
          have dne : ((n : Int) != 1 + (m : Int)) = false := by simp; omega
          obtain ⟨G, hG⟩ : ∃ G, G = foldN (some (startA k, ws)) f := ⟨_, rfl⟩
          have HG := Lib.hid hG
          have HAN0 : Hid (actN (x :: ws) = endN G) := by show _ = _; rw [hG]; exact HAN1.out
          have HL := Lib.hid hlen
          clear hlen hG HAN1
          go_wp2_with fail
          refine (HORK.out wr).mono ?_
          rintro e w3 ⟨rfl, rfl⟩
          clear hd dl
          go_wp2_with fail
          refine (HORK.out wr).mono ?_
          rintro e w3 ⟨rfl, rfl⟩
          clear ca dne hneg hneg2 ek
          go_wp2
          go_loopw [8] (fun vi wr => ∃ (i : Nat) (a : AN), i ≤ m ∧ vi = .int .i64 (i : Int) ∧ Hid (RAt wr A1 a) ∧ Hid (G = foldN (some (a, ws.drop i)) (f.drop i)) ∧ Hid ((115 : UInt8) ∈ f.drop i → a.which = 0) ∧ Hid (wr.heap[r]? = some (.cells #[.int .i64 0, .bool false, .int .i64 0, .int .i64 0, .int .i64 0, .int .i64 0, .slice none 0 0] 27 (0, 0))) ∧ Hid (Below r w wr)) (fun vi _ => m - (intOf vi).toNat)
          case atStart => exact ⟨0, startA k, by omega, rfl, HAT0.out, by rw [List.drop_zero, List.drop_zero]; exact HG.out, fun _ => rfl, HRR.out, HBR.out⟩
          case round =>
            clear HAT0 HG HRR HBR
            obtain ⟨i, a, hi, rfl, hat, hfold, hwz, hrw, hbel⟩ := hrel
            by_cases hlt : i < m
            · have hd : decide ((i : Int) < (m : Int)) = true := by simp; omega
              have dl : (i : Int) < (m : Int) := by omega
              have hiw : i < ws.length := by rw [HWM.out]; exact hlt
              obtain ⟨y, hy⟩ : ∃ y, y = ws[i] := ⟨_, rfl⟩
              obtain ⟨i1, hi1⟩ : ∃ j, j = i + 1 := ⟨_, rfl⟩
              have cy := HCEL.out wr hbel.out i1 y (by rw [hi1, List.getElem?_cons_succ, List.getElem?_eq_getElem hiw, hy])
              have HYL : Hid (y.length ≤ 1000000) := HWL.out y (by rw [hy]; exact List.getElem_mem _)
              have ek1 : IntKind.i64.wrap ((i : Int) + 1) = (i1 : Int) := by have := HM3.out; rw [IntWalk.i64_in _ (by omega)]; omega
              have i1a : ¬ (i1 : Int) < 0 := by omega
              have i1b : (i1 : Int) < (n : Int) := by have := HL.out; omega
              have HI1 := Lib.hid hi1
              have hix := fun w : World => run_index_sV w 9 f i Tryd.underlying9 (by rw [hlx]; exact hlt)
              obtain ⟨c, hc⟩ : ∃ c, c = (f.getD i 0).toNat := ⟨_, rfl⟩
              rw [← hc] at hix
              have HC7 : Hid (c = 119 ∨ c = 107 ∨ c = 110 ∨ c = 97 ∨ c = 98 ∨ c = 111 ∨ c = 115) := by
                show _ ∨ _
                rw [hc, List.getD_eq_getElem?_getD, List.getElem?_eq_getElem (by rw [hlx]; exact hlt)]
                exact HSG.out _ (List.getElem_mem _)
              have HFO : Hid (G = foldN (stepN (some (a, y :: ws.drop (i + 1))) c) (f.drop (i + 1))) := by
                show _ = _
                rw [hfold.out, foldN_drop _ _ _ (by rw [hlx]; exact hlt), List.drop_eq_getElem_cons hiw, ← hy, ← hc]
              have HDC : Hid (f.drop i = f.getD i 0 :: f.drop (i + 1)) := by show _ = _; rw [List.drop_eq_getElem_cons (by rw [hlx]; exact hlt), List.getD_eq_getElem?_getD, List.getElem?_eq_getElem (by rw [hlx]; exact hlt)]; rfl
              have HFC : Hid ((f.getD i 0).toNat = c) := hc.symm
              have HWZ : Hid ((115 : UInt8) ∈ f.drop (i + 1) → a.which = 0) := fun h => hwz.out (by rw [HDC.out]; exact List.mem_cons_of_mem _ h)
              have HWS : Hid (c = 115 → a.which = 0) := fun h => hwz.out (by rw [HDC.out, u8_eq (HFC.out.trans h) 115 rfl]; exact List.mem_cons_self ..)
              have HNS : Hid (c = 119 ∨ c = 115 → (115 : UInt8) ∉ f.drop (i + 1)) := fun h => HSO.out i (by have := HM3.out; omega) (by rcases h with h | h; exact Or.inl (u8_eq (HFC.out.trans h) 119 rfl); exact Or.inr (u8_eq (HFC.out.trans h) 115 rfl))
              have HI := Lib.hid hlt
              clear hwz
              clear hy hi1 hc hiw hi hlt hfold
              go_wp2_with fail
              refine (rvalue_c y wr).mono ?_
              rintro e w4 ⟨⟨q, rfl, hqv⟩, rfl⟩
              obtain ⟨okb, hok⟩ : ∃ b, b = (numW y).isSome := ⟨_, rfl⟩
              rw [← hok]
              have HOK := Lib.hid hok
              have HQV := Lib.hid hqv
              have ek : IntKind.i64.wrap ((i : Int) + 1) = (i : Int) + 1 := by have := HM3.out; have := HI.out; exact IntWalk.i64_in _ (by omega)
              clear hok hqv ek1 i1a i1b cy
              rcases HC7.out with rfl | rfl | rfl | rfl | rfl | rfl | rfl
              · have HA2 := Lib.hid hat.out
                obtain ⟨f1, f2, f3, f4, f5, f6, ⟨v1, c1⟩, ⟨v2, c2⟩, ⟨v3, c3⟩, ⟨v4, c4⟩, ⟨v5, c5⟩, ⟨v6, c6⟩⟩ := HA2.out.cells
                have HR2 : Hid ((wr.setCell ⟨A1, 2, none⟩ (.int .i64 (q : Int))).heap[r]? = some (.cells #[.int .i64 0, .bool false, .int .i64 0, .int .i64 0, .int .i64 0, .int .i64 0, .slice none 0 0] 27 (0, 0))) := (Below.heap_setCell _ _ _ _ (by have := HRA.out; show r ≠ A1; omega)).trans hrw.out
                have HB2 : Hid (Below r w (wr.setCell ⟨A1, 2, none⟩ (.int .i64 (q : Int)))) := hbel.out.setCell (by have := HRA.out; show r ≤ A1; omega) _
                have HA3 : Hid (RAt (wr.setCell ⟨A1, 2, none⟩ (.int .i64 (q : Int))) A1 { a with which := (q : Int) }) := HA2.out.set (a' := { a with which := (q : Int) }) rfl 2 _ (fun u => by simp [actA])
                cases okb with
                | false =>
                  have HNN : Hid (numW y = none) := by show _ = _; have := HOK.out; cases h : numW y with | none => rfl | some z => rw [h] at this; cases this
                  have HAN : Hid (actN (x :: ws) = none) := by show _ = _; rw [HAN0.out, HFO.out, show stepN (some (a, y :: ws.drop (i + 1))) 119 = none by rw [stepN_some]; show ((numW y).map (fun (v : Nat) => { a with which := (v : Int) })).map _ = none; rw [HNN.out]; rfl, foldN_none]; rfl
                  go_wp2_with (first
                    | (refine wpList_store_row rfl 27 (.tmp 2) (.tmp 111) rfl r (actA zeroAct nilV) rfl rfl 27 _ HR2.out (by rw [act27]; rfl) (by rfl) (actA_one _ _ _ _) ?_)
                    | fail)
                  refine bodyPost_ret (results_row_tmp rfl _ _ r 27 (actA zeroAct nilV) (0, 0) _ rfl (setRow_heap _ _ _ _ _ _ HR2.out) Tryd.underlying27 rfl (by rw [act27]; rfl)) rfl ?_
                  exact ⟨by rw [← HRW.out]; exact below_setRow HB2.out (Nat.le_refl _) _, zeroAct, none, 0, by rw [HAN.out]; rfl, fun a' ha => by rw [HAN.out] at ha; cases ha⟩
                | true =>
                  have HNN : Hid (numW y = some q) := by show _ = _; have := HOK.out; cases h : numW y with | none => rw [h] at this; cases this | some z => rw [HQV.out z h]
                  have HR9 : Hid ((wr.setCell ⟨A1, 2, none⟩ (.int .i64 (q : Int))).heap[r]? = some (.cells #[.int .i64 0, .bool false, .int .i64 0, .int .i64 0, .int .i64 0, .int .i64 0, .slice none 0 0] 27 (0, 0))) := HR2.out
                  have HB9 : Hid (Below r w (wr.setCell ⟨A1, 2, none⟩ (.int .i64 (q : Int)))) := HB2.out
                  have HA9 : Hid (RAt (wr.setCell ⟨A1, 2, none⟩ (.int .i64 (q : Int))) A1 { a with which := (q : Int) }) := HA3.out
                  have HG9 : Hid (G = foldN (some ({ a with which := (q : Int) }, ws.drop (i + 1))) (f.drop (i + 1))) := by
                    show _ = _
                    rw [HFO.out, show stepN (some (a, y :: ws.drop (i + 1))) 119 = some ({ a with which := (q : Int) }, ws.drop (i + 1)) by rw [stepN_some]; show ((numW y).map (fun (v : Nat) => { a with which := (v : Int) })).map _ = _; rw [HNN.out]; rfl]
                  go_wp2
                  go_roundw
                  case rel => exact ⟨i + 1, { a with which := (q : Int) }, by have := HI.out; omega, by go_num, HA9.out, HG9.out, fun h => absurd h (HNS.out (by simp)), HR9.out, HB9.out⟩
                  case measure => simp [intOf]; have := HI.out; omega
              · have HA2 := Lib.hid hat.out
                obtain ⟨f1, f2, f3, f4, f5, f6, ⟨v1, c1⟩, ⟨v2, c2⟩, ⟨v3, c3⟩, ⟨v4, c4⟩, ⟨v5, c5⟩, ⟨v6, c6⟩⟩ := HA2.out.cells
                have HR2 : Hid ((wr.setCell ⟨A1, 3, none⟩ (.int .i64 (q : Int))).heap[r]? = some (.cells #[.int .i64 0, .bool false, .int .i64 0, .int .i64 0, .int .i64 0, .int .i64 0, .slice none 0 0] 27 (0, 0))) := (Below.heap_setCell _ _ _ _ (by have := HRA.out; show r ≠ A1; omega)).trans hrw.out
                have HB2 : Hid (Below r w (wr.setCell ⟨A1, 3, none⟩ (.int .i64 (q : Int)))) := hbel.out.setCell (by have := HRA.out; show r ≤ A1; omega) _
                have HA3 : Hid (RAt (wr.setCell ⟨A1, 3, none⟩ (.int .i64 (q : Int))) A1 { a with k := (q : Int) }) := HA2.out.set (a' := { a with k := (q : Int) }) rfl 3 _ (fun u => by simp [actA])
                cases okb with
                | false =>
                  have HNN : Hid (numW y = none) := by show _ = _; have := HOK.out; cases h : numW y with | none => rfl | some z => rw [h] at this; cases this
                  have HAN : Hid (actN (x :: ws) = none) := by show _ = _; rw [HAN0.out, HFO.out, show stepN (some (a, y :: ws.drop (i + 1))) 107 = none by rw [stepN_some]; show ((numW y).map (fun (v : Nat) => { a with k := (v : Int) })).map _ = none; rw [HNN.out]; rfl, foldN_none]; rfl
                  go_wp2_with (first
                    | (refine wpList_store_row rfl 27 (.tmp 2) (.tmp 111) rfl r (actA zeroAct nilV) rfl rfl 27 _ HR2.out (by rw [act27]; rfl) (by rfl) (actA_one _ _ _ _) ?_)
                    | fail)
                  refine bodyPost_ret (results_row_tmp rfl _ _ r 27 (actA zeroAct nilV) (0, 0) _ rfl (setRow_heap _ _ _ _ _ _ HR2.out) Tryd.underlying27 rfl (by rw [act27]; rfl)) rfl ?_
                  exact ⟨by rw [← HRW.out]; exact below_setRow HB2.out (Nat.le_refl _) _, zeroAct, none, 0, by rw [HAN.out]; rfl, fun a' ha => by rw [HAN.out] at ha; cases ha⟩
                | true =>
                  have HNN : Hid (numW y = some q) := by show _ = _; have := HOK.out; cases h : numW y with | none => rw [h] at this; cases this | some z => rw [HQV.out z h]
                  have HR9 : Hid ((wr.setCell ⟨A1, 3, none⟩ (.int .i64 (q : Int))).heap[r]? = some (.cells #[.int .i64 0, .bool false, .int .i64 0, .int .i64 0, .int .i64 0, .int .i64 0, .slice none 0 0] 27 (0, 0))) := HR2.out
                  have HB9 : Hid (Below r w (wr.setCell ⟨A1, 3, none⟩ (.int .i64 (q : Int)))) := HB2.out
                  have HA9 : Hid (RAt (wr.setCell ⟨A1, 3, none⟩ (.int .i64 (q : Int))) A1 { a with k := (q : Int) }) := HA3.out
                  have HG9 : Hid (G = foldN (some ({ a with k := (q : Int) }, ws.drop (i + 1))) (f.drop (i + 1))) := by
                    show _ = _
                    rw [HFO.out, show stepN (some (a, y :: ws.drop (i + 1))) 107 = some ({ a with k := (q : Int) }, ws.drop (i + 1)) by rw [stepN_some]; show ((numW y).map (fun (v : Nat) => { a with k := (v : Int) })).map _ = _; rw [HNN.out]; rfl]
                  go_wp2
                  go_roundw
                  case rel => exact ⟨i + 1, { a with k := (q : Int) }, by have := HI.out; omega, by go_num, HA9.out, HG9.out, HWZ.out, HR9.out, HB9.out⟩
                  case measure => simp [intOf]; have := HI.out; omega
              · have HA2 := Lib.hid hat.out
                obtain ⟨f1, f2, f3, f4, f5, f6, ⟨v1, c1⟩, ⟨v2, c2⟩, ⟨v3, c3⟩, ⟨v4, c4⟩, ⟨v5, c5⟩, ⟨v6, c6⟩⟩ := HA2.out.cells
                have HR2 : Hid ((wr.setCell ⟨A1, 4, none⟩ (.int .i64 (q : Int))).heap[r]? = some (.cells #[.int .i64 0, .bool false, .int .i64 0, .int .i64 0, .int .i64 0, .int .i64 0, .slice none 0 0] 27 (0, 0))) := (Below.heap_setCell _ _ _ _ (by have := HRA.out; show r ≠ A1; omega)).trans hrw.out
                have HB2 : Hid (Below r w (wr.setCell ⟨A1, 4, none⟩ (.int .i64 (q : Int)))) := hbel.out.setCell (by have := HRA.out; show r ≤ A1; omega) _
                have HA3 : Hid (RAt (wr.setCell ⟨A1, 4, none⟩ (.int .i64 (q : Int))) A1 { a with n := (q : Int) }) := HA2.out.set (a' := { a with n := (q : Int) }) rfl 4 _ (fun u => by simp [actA])
                cases okb with
                | false =>
                  have HNN : Hid (numW y = none) := by show _ = _; have := HOK.out; cases h : numW y with | none => rfl | some z => rw [h] at this; cases this
                  have HAN : Hid (actN (x :: ws) = none) := by show _ = _; rw [HAN0.out, HFO.out, show stepN (some (a, y :: ws.drop (i + 1))) 110 = none by rw [stepN_some]; show ((numW y).map (fun (v : Nat) => { a with n := (v : Int) })).map _ = none; rw [HNN.out]; rfl, foldN_none]; rfl
                  go_wp2_with (first
                    | (refine wpList_store_row rfl 27 (.tmp 2) (.tmp 111) rfl r (actA zeroAct nilV) rfl rfl 27 _ HR2.out (by rw [act27]; rfl) (by rfl) (actA_one _ _ _ _) ?_)
                    | fail)
                  refine bodyPost_ret (results_row_tmp rfl _ _ r 27 (actA zeroAct nilV) (0, 0) _ rfl (setRow_heap _ _ _ _ _ _ HR2.out) Tryd.underlying27 rfl (by rw [act27]; rfl)) rfl ?_
                  exact ⟨by rw [← HRW.out]; exact below_setRow HB2.out (Nat.le_refl _) _, zeroAct, none, 0, by rw [HAN.out]; rfl, fun a' ha => by rw [HAN.out] at ha; cases ha⟩
                | true =>
                  have HNN : Hid (numW y = some q) := by show _ = _; have := HOK.out; cases h : numW y with | none => rw [h] at this; cases this | some z => rw [HQV.out z h]
                  have HR9 : Hid ((wr.setCell ⟨A1, 4, none⟩ (.int .i64 (q : Int))).heap[r]? = some (.cells #[.int .i64 0, .bool false, .int .i64 0, .int .i64 0, .int .i64 0, .int .i64 0, .slice none 0 0] 27 (0, 0))) := HR2.out
                  have HB9 : Hid (Below r w (wr.setCell ⟨A1, 4, none⟩ (.int .i64 (q : Int)))) := HB2.out
                  have HA9 : Hid (RAt (wr.setCell ⟨A1, 4, none⟩ (.int .i64 (q : Int))) A1 { a with n := (q : Int) }) := HA3.out
                  have HG9 : Hid (G = foldN (some ({ a with n := (q : Int) }, ws.drop (i + 1))) (f.drop (i + 1))) := by
                    show _ = _
                    rw [HFO.out, show stepN (some (a, y :: ws.drop (i + 1))) 110 = some ({ a with n := (q : Int) }, ws.drop (i + 1)) by rw [stepN_some]; show ((numW y).map (fun (v : Nat) => { a with n := (v : Int) })).map _ = _; rw [HNN.out]; rfl]
                  go_wp2
                  go_roundw
                  case rel => exact ⟨i + 1, { a with n := (q : Int) }, by have := HI.out; omega, by go_num, HA9.out, HG9.out, HWZ.out, HR9.out, HB9.out⟩
                  case measure => simp [intOf]; have := HI.out; omega
              · have HA2 := Lib.hid hat.out
                obtain ⟨f1, f2, f3, f4, f5, f6, ⟨v1, c1⟩, ⟨v2, c2⟩, ⟨v3, c3⟩, ⟨v4, c4⟩, ⟨v5, c5⟩, ⟨v6, c6⟩⟩ := HA2.out.cells
                have HR2 : Hid ((wr.setCell ⟨A1, 5, none⟩ (.int .i64 (q : Int))).heap[r]? = some (.cells #[.int .i64 0, .bool false, .int .i64 0, .int .i64 0, .int .i64 0, .int .i64 0, .slice none 0 0] 27 (0, 0))) := (Below.heap_setCell _ _ _ _ (by have := HRA.out; show r ≠ A1; omega)).trans hrw.out
                have HB2 : Hid (Below r w (wr.setCell ⟨A1, 5, none⟩ (.int .i64 (q : Int)))) := hbel.out.setCell (by have := HRA.out; show r ≤ A1; omega) _
                have HA3 : Hid (RAt (wr.setCell ⟨A1, 5, none⟩ (.int .i64 (q : Int))) A1 { a with at_ := (q : Int) }) := HA2.out.set (a' := { a with at_ := (q : Int) }) rfl 5 _ (fun u => by simp [actA])
                cases okb with
                | false =>
                  have HNN : Hid (numW y = none) := by show _ = _; have := HOK.out; cases h : numW y with | none => rfl | some z => rw [h] at this; cases this
                  have HAN : Hid (actN (x :: ws) = none) := by show _ = _; rw [HAN0.out, HFO.out, show stepN (some (a, y :: ws.drop (i + 1))) 97 = none by rw [stepN_some]; show ((numW y).map (fun (v : Nat) => { a with at_ := (v : Int) })).map _ = none; rw [HNN.out]; rfl, foldN_none]; rfl
                  go_wp2_with (first
                    | (refine wpList_store_row rfl 27 (.tmp 2) (.tmp 111) rfl r (actA zeroAct nilV) rfl rfl 27 _ HR2.out (by rw [act27]; rfl) (by rfl) (actA_one _ _ _ _) ?_)
                    | fail)
                  refine bodyPost_ret (results_row_tmp rfl _ _ r 27 (actA zeroAct nilV) (0, 0) _ rfl (setRow_heap _ _ _ _ _ _ HR2.out) Tryd.underlying27 rfl (by rw [act27]; rfl)) rfl ?_
                  exact ⟨by rw [← HRW.out]; exact below_setRow HB2.out (Nat.le_refl _) _, zeroAct, none, 0, by rw [HAN.out]; rfl, fun a' ha => by rw [HAN.out] at ha; cases ha⟩
                | true =>
                  have HNN : Hid (numW y = some q) := by show _ = _; have := HOK.out; cases h : numW y with | none => rw [h] at this; cases this | some z => rw [HQV.out z h]
                  have HR9 : Hid ((wr.setCell ⟨A1, 5, none⟩ (.int .i64 (q : Int))).heap[r]? = some (.cells #[.int .i64 0, .bool false, .int .i64 0, .int .i64 0, .int .i64 0, .int .i64 0, .slice none 0 0] 27 (0, 0))) := HR2.out
                  have HB9 : Hid (Below r w (wr.setCell ⟨A1, 5, none⟩ (.int .i64 (q : Int)))) := HB2.out
                  have HA9 : Hid (RAt (wr.setCell ⟨A1, 5, none⟩ (.int .i64 (q : Int))) A1 { a with at_ := (q : Int) }) := HA3.out
                  have HG9 : Hid (G = foldN (some ({ a with at_ := (q : Int) }, ws.drop (i + 1))) (f.drop (i + 1))) := by
                    show _ = _
                    rw [HFO.out, show stepN (some (a, y :: ws.drop (i + 1))) 97 = some ({ a with at_ := (q : Int) }, ws.drop (i + 1)) by rw [stepN_some]; show ((numW y).map (fun (v : Nat) => { a with at_ := (v : Int) })).map _ = _; rw [HNN.out]; rfl]
                  go_wp2
                  go_roundw
                  case rel => exact ⟨i + 1, { a with at_ := (q : Int) }, by have := HI.out; omega, by go_num, HA9.out, HG9.out, HWZ.out, HR9.out, HB9.out⟩
                  case measure => simp [intOf]; have := HI.out; omega
              · go_wp2_with fail
                refine (rhex_c y HYL.out wr).mono ?_
                rintro e w4 ⟨⟨v, rfl, hown4⟩, hb4⟩
                obtain ⟨va, vc, rfl, hBy, hlen, hcap, hcm, hnil, hgg⟩ := own_bytes (hexR_lt y) hown4
                have HA2 : Hid (RAt w4 A1 a) := hat.out.up hb4
                obtain ⟨f1, f2, f3, f4, f5, f6, ⟨v1, c1⟩, ⟨v2, c2⟩, ⟨v3, c3⟩, ⟨v4, c4⟩, ⟨v5, c5⟩, ⟨v6, c6⟩⟩ := HA2.out.cells
                obtain ⟨z, hz⟩ : ∃ z, z = hexR y := ⟨_, rfl⟩
                obtain ⟨okh, hokh⟩ : ∃ b, b = (hexW y).isSome := ⟨_, rfl⟩
                rw [← hz] at hBy ⊢
                rw [← hokh]
                have HZ := Lib.hid hz
                have HOKH := Lib.hid hokh
                have HAB := Lib.hid hat.out.lt
                have HA3 := Lib.hid (HA2.out.setB z va vc hBy hnil (fun g o zz hg => by have := (hgg g o zz hg).1; have := HAB.out; omega))
                have HR2 : Hid ((w4.setCell ⟨A1, 6, none⟩ (.slice va z.length vc)).heap[r]? = some (.cells #[.int .i64 0, .bool false, .int .i64 0, .int .i64 0, .int .i64 0, .int .i64 0, .slice none 0 0] 27 (0, 0))) := (Below.heap_setCell _ _ _ _ (by have := HRA.out; show r ≠ A1; omega)).trans ((hb4.block _ (lt_of_block hrw.out)).trans hrw.out)
                have HB2 : Hid (Below r w (w4.setCell ⟨A1, 6, none⟩ (.slice va z.length vc))) := (hbel.out.trans (hb4.mono (Nat.le_of_lt (lt_of_block hrw.out)))).setCell (by have := HRA.out; show r ≤ A1; omega) _
                clear hz hokh hown4 hb4 hBy hlen hcap hcm hnil hgg
                cases okh with
                | false =>
                  have HNN : Hid (hexW y = none) := by show _ = _; have := HOKH.out; cases h : hexW y with | none => rfl | some z => rw [h] at this; cases this
                  have HAN : Hid (actN (x :: ws) = none) := by show _ = _; rw [HAN0.out, HFO.out, show stepN (some (a, y :: ws.drop (i + 1))) 98 = none by rw [stepN_some]; show ((hexW y).map (fun v => { a with b := v })).map _ = none; rw [HNN.out]; rfl, foldN_none]; rfl
                  go_wp2_with (first
                    | (refine wpList_store_row rfl 27 (.tmp 2) (.tmp 111) rfl r (actA zeroAct nilV) rfl rfl 27 _ HR2.out (by rw [act27]; rfl) (by rfl) (actA_one _ _ _ _) ?_)
                    | fail)
                  refine bodyPost_ret (results_row_tmp rfl _ _ r 27 (actA zeroAct nilV) (0, 0) _ rfl (setRow_heap _ _ _ _ _ _ HR2.out) Tryd.underlying27 rfl (by rw [act27]; rfl)) rfl ?_
                  exact ⟨by rw [← HRW.out]; exact below_setRow HB2.out (Nat.le_refl _) _, zeroAct, none, 0, by rw [HAN.out]; rfl, fun a' ha => by rw [HAN.out] at ha; cases ha⟩
                | true =>
                  have HNN : Hid (hexW y = some z) := by show _ = _; have := HOKH.out; cases h : hexW y with | none => rw [h] at this; cases this | some z2 => rw [HZ.out]; unfold hexR; rw [h]; rfl
                  have HR9 : Hid ((w4.setCell ⟨A1, 6, none⟩ (.slice va z.length vc)).heap[r]? = some (.cells #[.int .i64 0, .bool false, .int .i64 0, .int .i64 0, .int .i64 0, .int .i64 0, .slice none 0 0] 27 (0, 0))) := HR2.out
                  have HB9 : Hid (Below r w (w4.setCell ⟨A1, 6, none⟩ (.slice va z.length vc))) := HB2.out
                  have HA9 : Hid (RAt (w4.setCell ⟨A1, 6, none⟩ (.slice va z.length vc)) A1 { a with b := z }) := HA3.out
                  have HG9 : Hid (G = foldN (some ({ a with b := z }, ws.drop (i + 1))) (f.drop (i + 1))) := by
                    show _ = _
                    rw [HFO.out, show stepN (some (a, y :: ws.drop (i + 1))) 98 = some ({ a with b := z }, ws.drop (i + 1)) by rw [stepN_some]; show ((hexW y).map (fun v => { a with b := v })).map _ = _; rw [HNN.out]; rfl]
                  go_wp2
                  go_roundw
                  case rel => exact ⟨i + 1, { a with b := z }, by have := HI.out; omega, by go_num, HA9.out, HG9.out, HWZ.out, HR9.out, HB9.out⟩
                  case measure => simp [intOf]; have := HI.out; omega
              · by_cases hrd : y = readW
                · have drd : decide (y = readW) = true := by simpa using hrd
                  have dwt : decide (y = writeW) = false := by rw [hrd]; decide
                  have HDR := Lib.hid (And.intro drd dwt)
                  unfold readW at drd
                  unfold writeW at dwt
                  clear hrd
                  have HA2 := Lib.hid hat.out
                  obtain ⟨f1, f2, f3, f4, f5, f6, ⟨v1, c1⟩, ⟨v2, c2⟩, ⟨v3, c3⟩, ⟨v4, c4⟩, ⟨v5, c5⟩, ⟨v6, c6⟩⟩ := HA2.out.cells
                  have HR2 : Hid ((wr.setCell ⟨A1, 1, none⟩ (.bool false)).heap[r]? = some (.cells #[.int .i64 0, .bool false, .int .i64 0, .int .i64 0, .int .i64 0, .int .i64 0, .slice none 0 0] 27 (0, 0))) := (Below.heap_setCell _ _ _ _ (by have := HRA.out; show r ≠ A1; omega)).trans hrw.out
                  have HB2 : Hid (Below r w (wr.setCell ⟨A1, 1, none⟩ (.bool false))) := hbel.out.setCell (by have := HRA.out; show r ≤ A1; omega) _
                  have HA3 : Hid (RAt (wr.setCell ⟨A1, 1, none⟩ (.bool false)) A1 { a with yes := false }) := HA2.out.set (a' := { a with yes := false }) rfl 1 _ (fun u => by simp [actA])
                  have HR9 : Hid ((wr.setCell ⟨A1, 1, none⟩ (.bool false)).heap[r]? = some (.cells #[.int .i64 0, .bool false, .int .i64 0, .int .i64 0, .int .i64 0, .int .i64 0, .slice none 0 0] 27 (0, 0))) := HR2.out
                  have HB9 : Hid (Below r w (wr.setCell ⟨A1, 1, none⟩ (.bool false))) := HB2.out
                  have HA9 : Hid (RAt (wr.setCell ⟨A1, 1, none⟩ (.bool false)) A1 { a with yes := false }) := HA3.out
                  have HG9 : Hid (G = foldN (some ({ a with yes := false }, ws.drop (i + 1))) (f.drop (i + 1))) := by
                    show _ = _
                    rw [HFO.out, show stepN (some (a, y :: ws.drop (i + 1))) 111 = some ({ a with yes := false }, ws.drop (i + 1)) by rw [stepN_some]; show (if decide (y = readW) || decide (y = writeW) then some { a with yes := decide (y = writeW) } else none).map _ = _; rw [HDR.out.1, HDR.out.2]; rfl]
                  go_wp2
                  go_roundw
                  case rel => exact ⟨i + 1, { a with yes := false }, by have := HI.out; omega, by go_num, HA9.out, HG9.out, HWZ.out, HR9.out, HB9.out⟩
                  case measure => simp [intOf]; have := HI.out; omega
                · have drd : decide (y = readW) = false := by simpa using hrd
                  by_cases hwt : y = writeW
                  · have dwt : decide (y = writeW) = true := by simpa using hwt
                    have HDR := Lib.hid (And.intro drd dwt)
                    unfold readW at drd
                    unfold writeW at dwt
                    clear hrd hwt
                    have HA2 := Lib.hid hat.out
                    obtain ⟨f1, f2, f3, f4, f5, f6, ⟨v1, c1⟩, ⟨v2, c2⟩, ⟨v3, c3⟩, ⟨v4, c4⟩, ⟨v5, c5⟩, ⟨v6, c6⟩⟩ := HA2.out.cells
                    have HR2 : Hid ((wr.setCell ⟨A1, 1, none⟩ (.bool true)).heap[r]? = some (.cells #[.int .i64 0, .bool false, .int .i64 0, .int .i64 0, .int .i64 0, .int .i64 0, .slice none 0 0] 27 (0, 0))) := (Below.heap_setCell _ _ _ _ (by have := HRA.out; show r ≠ A1; omega)).trans hrw.out
                    have HB2 : Hid (Below r w (wr.setCell ⟨A1, 1, none⟩ (.bool true))) := hbel.out.setCell (by have := HRA.out; show r ≤ A1; omega) _
                    have HA3 : Hid (RAt (wr.setCell ⟨A1, 1, none⟩ (.bool true)) A1 { a with yes := true }) := HA2.out.set (a' := { a with yes := true }) rfl 1 _ (fun u => by simp [actA])
                    have HR9 : Hid ((wr.setCell ⟨A1, 1, none⟩ (.bool true)).heap[r]? = some (.cells #[.int .i64 0, .bool false, .int .i64 0, .int .i64 0, .int .i64 0, .int .i64 0, .slice none 0 0] 27 (0, 0))) := HR2.out
                    have HB9 : Hid (Below r w (wr.setCell ⟨A1, 1, none⟩ (.bool true))) := HB2.out
                    have HA9 : Hid (RAt (wr.setCell ⟨A1, 1, none⟩ (.bool true)) A1 { a with yes := true }) := HA3.out
                    have HG9 : Hid (G = foldN (some ({ a with yes := true }, ws.drop (i + 1))) (f.drop (i + 1))) := by
                      show _ = _
                      rw [HFO.out, show stepN (some (a, y :: ws.drop (i + 1))) 111 = some ({ a with yes := true }, ws.drop (i + 1)) by rw [stepN_some]; show (if decide (y = readW) || decide (y = writeW) then some { a with yes := decide (y = writeW) } else none).map _ = _; rw [HDR.out.1, HDR.out.2]; rfl]
                    go_wp2
                    go_roundw
                    case rel => exact ⟨i + 1, { a with yes := true }, by have := HI.out; omega, by go_num, HA9.out, HG9.out, HWZ.out, HR9.out, HB9.out⟩
                    case measure => simp [intOf]; have := HI.out; omega
                  · have dwt : decide (y = writeW) = false := by simpa using hwt
                    have HDR := Lib.hid (And.intro drd dwt)
                    unfold readW at drd
                    unfold writeW at dwt
                    clear hrd hwt
                    have HA2 := Lib.hid hat.out
                    obtain ⟨f1, f2, f3, f4, f5, f6, ⟨v1, c1⟩, ⟨v2, c2⟩, ⟨v3, c3⟩, ⟨v4, c4⟩, ⟨v5, c5⟩, ⟨v6, c6⟩⟩ := HA2.out.cells
                    have HR2 : Hid ((wr.setCell ⟨A1, 1, none⟩ (.bool false)).heap[r]? = some (.cells #[.int .i64 0, .bool false, .int .i64 0, .int .i64 0, .int .i64 0, .int .i64 0, .slice none 0 0] 27 (0, 0))) := (Below.heap_setCell _ _ _ _ (by have := HRA.out; show r ≠ A1; omega)).trans hrw.out
                    have HB2 : Hid (Below r w (wr.setCell ⟨A1, 1, none⟩ (.bool false))) := hbel.out.setCell (by have := HRA.out; show r ≤ A1; omega) _
                    have HA3 : Hid (RAt (wr.setCell ⟨A1, 1, none⟩ (.bool false)) A1 { a with yes := false }) := HA2.out.set (a' := { a with yes := false }) rfl 1 _ (fun u => by simp [actA])
                    have HAN : Hid (actN (x :: ws) = none) := by show _ = _; rw [HAN0.out, HFO.out, show stepN (some (a, y :: ws.drop (i + 1))) 111 = none by rw [stepN_some]; show (if decide (y = readW) || decide (y = writeW) then some { a with yes := decide (y = writeW) } else none).map _ = _; rw [HDR.out.1, HDR.out.2]; rfl, foldN_none]; rfl
                    go_wp2_with (first
                      | (refine wpList_store_row rfl 27 (.tmp 2) (.tmp 111) rfl r (actA zeroAct nilV) rfl rfl 27 _ HR2.out (by rw [act27]; rfl) (by rfl) (actA_one _ _ _ _) ?_)
                      | fail)
                    refine bodyPost_ret (results_row_tmp rfl _ _ r 27 (actA zeroAct nilV) (0, 0) _ rfl (setRow_heap _ _ _ _ _ _ HR2.out) Tryd.underlying27 rfl (by rw [act27]; rfl)) rfl ?_
                    exact ⟨by rw [← HRW.out]; exact below_setRow HB2.out (Nat.le_refl _) _, zeroAct, none, 0, by rw [HAN.out]; rfl, fun a' ha => by rw [HAN.out] at ha; cases ha⟩
              · by_cases hno : y = noneW
                · have HNO := Lib.hid hno
                  have dno : decide (y = noneW) = true := by simpa using hno
                  unfold noneW at dno
                  clear hno
                  have HA2 := Lib.hid hat.out
                  obtain ⟨f1, f2, f3, f4, f5, f6, ⟨v1, c1⟩, ⟨v2, c2⟩, ⟨v3, c3⟩, ⟨v4, c4⟩, ⟨v5, c5⟩, ⟨v6, c6⟩⟩ := HA2.out.cells
                  have HR1 : Hid (((wr.setCell ⟨A1, 1, none⟩ (.bool true)).setCell ⟨A1, 2, none⟩ (.int .i64 (q : Int))).heap[r]? = some (.cells #[.int .i64 0, .bool false, .int .i64 0, .int .i64 0, .int .i64 0, .int .i64 0, .slice none 0 0] 27 (0, 0))) := (Below.heap_setCell _ _ _ _ (by have := HRA.out; show r ≠ A1; omega)).trans ((Below.heap_setCell _ _ _ _ (by have := HRA.out; show r ≠ A1; omega)).trans hrw.out)
                  have HB1 : Hid (Below r w ((wr.setCell ⟨A1, 1, none⟩ (.bool true)).setCell ⟨A1, 2, none⟩ (.int .i64 (q : Int)))) := (hbel.out.setCell (by have := HRA.out; show r ≤ A1; omega) _).setCell (by have := HRA.out; show r ≤ A1; omega) _
                  have HA1 : Hid (RAt (wr.setCell ⟨A1, 1, none⟩ (.bool true)) A1 { a with yes := true }) := HA2.out.set (a' := { a with yes := true }) rfl 1 _ (fun u => by simp [actA])
                  have HA3 : Hid (RAt ((wr.setCell ⟨A1, 1, none⟩ (.bool true)).setCell ⟨A1, 2, none⟩ (.int .i64 (q : Int))) A1 { a with yes := true, which := (q : Int) }) := HA1.out.set (a' := { a with yes := true, which := (q : Int) }) rfl 2 _ (fun u => by simp [actA])
                  have HSZ := Lib.hid HA3.out.cells
                  have HR2 : Hid ((((wr.setCell ⟨A1, 1, none⟩ (.bool true)).setCell ⟨A1, 2, none⟩ (.int .i64 (q : Int))).setCell ⟨A1, 2, none⟩ (.int .i64 0)).heap[r]? = some (.cells #[.int .i64 0, .bool false, .int .i64 0, .int .i64 0, .int .i64 0, .int .i64 0, .slice none 0 0] 27 (0, 0))) := (Below.heap_setCell _ _ _ _ (by have := HRA.out; show r ≠ A1; omega)).trans HR1.out
                  have HB2 : Hid (Below r w (((wr.setCell ⟨A1, 1, none⟩ (.bool true)).setCell ⟨A1, 2, none⟩ (.int .i64 (q : Int))).setCell ⟨A1, 2, none⟩ (.int .i64 0))) := HB1.out.setCell (by have := HRA.out; show r ≤ A1; omega) _
                  have HA4 : Hid (RAt (((wr.setCell ⟨A1, 1, none⟩ (.bool true)).setCell ⟨A1, 2, none⟩ (.int .i64 (q : Int))).setCell ⟨A1, 2, none⟩ (.int .i64 0)) A1 { a with yes := true, which := 0 }) := HA3.out.set (a' := { a with yes := true, which := 0 }) rfl 2 _ (fun u => by simp [actA])
                  have HR9 : Hid ((((wr.setCell ⟨A1, 1, none⟩ (.bool true)).setCell ⟨A1, 2, none⟩ (.int .i64 (q : Int))).setCell ⟨A1, 2, none⟩ (.int .i64 0)).heap[r]? = some (.cells #[.int .i64 0, .bool false, .int .i64 0, .int .i64 0, .int .i64 0, .int .i64 0, .slice none 0 0] 27 (0, 0))) := HR2.out
                  have HB9 : Hid (Below r w (((wr.setCell ⟨A1, 1, none⟩ (.bool true)).setCell ⟨A1, 2, none⟩ (.int .i64 (q : Int))).setCell ⟨A1, 2, none⟩ (.int .i64 0))) := HB2.out
                  have HA9 : Hid (RAt (((wr.setCell ⟨A1, 1, none⟩ (.bool true)).setCell ⟨A1, 2, none⟩ (.int .i64 (q : Int))).setCell ⟨A1, 2, none⟩ (.int .i64 0)) A1 { a with yes := true, which := 0 }) := HA4.out
                  have HG9 : Hid (G = foldN (some ({ a with yes := true, which := 0 }, ws.drop (i + 1))) (f.drop (i + 1))) := by
                    show _ = _
                    rw [HFO.out, show stepN (some (a, y :: ws.drop (i + 1))) 115 = some ({ a with yes := true, which := 0 }, ws.drop (i + 1)) by rw [stepN_some]; show (if y = noneW then some { a with yes := true } else (numW y).map (fun (v : Nat) => { a with yes := false, which := (v : Int) })).map _ = _; rw [if_pos HNO.out, yes_which (HWS.out rfl)]; rfl]
                  go_wp2
                  go_roundw
                  case rel => exact ⟨i + 1, { a with yes := true, which := 0 }, by have := HI.out; omega, by go_num, HA9.out, HG9.out, fun h => absurd h (HNS.out (by simp)), HR9.out, HB9.out⟩
                  case measure => simp [intOf]; have := HI.out; omega
                · have HNO := Lib.hid hno
                  have dno : decide (y = noneW) = false := by simpa using hno
                  unfold noneW at dno
                  clear hno
                  have HA2 := Lib.hid hat.out
                  obtain ⟨f1, f2, f3, f4, f5, f6, ⟨v1, c1⟩, ⟨v2, c2⟩, ⟨v3, c3⟩, ⟨v4, c4⟩, ⟨v5, c5⟩, ⟨v6, c6⟩⟩ := HA2.out.cells
                  have HR1 : Hid (((wr.setCell ⟨A1, 1, none⟩ (.bool false)).setCell ⟨A1, 2, none⟩ (.int .i64 (q : Int))).heap[r]? = some (.cells #[.int .i64 0, .bool false, .int .i64 0, .int .i64 0, .int .i64 0, .int .i64 0, .slice none 0 0] 27 (0, 0))) := (Below.heap_setCell _ _ _ _ (by have := HRA.out; show r ≠ A1; omega)).trans ((Below.heap_setCell _ _ _ _ (by have := HRA.out; show r ≠ A1; omega)).trans hrw.out)
                  have HB1 : Hid (Below r w ((wr.setCell ⟨A1, 1, none⟩ (.bool false)).setCell ⟨A1, 2, none⟩ (.int .i64 (q : Int)))) := (hbel.out.setCell (by have := HRA.out; show r ≤ A1; omega) _).setCell (by have := HRA.out; show r ≤ A1; omega) _
                  have HA1 : Hid (RAt (wr.setCell ⟨A1, 1, none⟩ (.bool false)) A1 { a with yes := false }) := HA2.out.set (a' := { a with yes := false }) rfl 1 _ (fun u => by simp [actA])
                  have HA3 : Hid (RAt ((wr.setCell ⟨A1, 1, none⟩ (.bool false)).setCell ⟨A1, 2, none⟩ (.int .i64 (q : Int))) A1 { a with yes := false, which := (q : Int) }) := HA1.out.set (a' := { a with yes := false, which := (q : Int) }) rfl 2 _ (fun u => by simp [actA])
                  have HSZ := Lib.hid HA3.out.cells
                  cases okb with
                  | false =>
                    have HNN : Hid (numW y = none) := by show _ = _; have := HOK.out; cases h : numW y with | none => rfl | some z => rw [h] at this; cases this
                    have HAN : Hid (actN (x :: ws) = none) := by show _ = _; rw [HAN0.out, HFO.out, show stepN (some (a, y :: ws.drop (i + 1))) 115 = none by rw [stepN_some]; show (if y = noneW then some { a with yes := true } else (numW y).map (fun (v : Nat) => { a with yes := false, which := (v : Int) })).map _ = _; rw [if_neg HNO.out, HNN.out]; rfl, foldN_none]; rfl
                    go_wp2_with (first
                      | (refine wpList_store_row rfl 27 (.tmp 2) (.tmp 111) rfl r (actA zeroAct nilV) rfl rfl 27 _ HR1.out (by rw [act27]; rfl) (by rfl) (actA_one _ _ _ _) ?_)
                      | fail)
                    refine bodyPost_ret (results_row_tmp rfl _ _ r 27 (actA zeroAct nilV) (0, 0) _ rfl (setRow_heap _ _ _ _ _ _ HR1.out) Tryd.underlying27 rfl (by rw [act27]; rfl)) rfl ?_
                    exact ⟨by rw [← HRW.out]; exact below_setRow HB1.out (Nat.le_refl _) _, zeroAct, none, 0, by rw [HAN.out]; rfl, fun a' ha => by rw [HAN.out] at ha; cases ha⟩
                  | true =>
                    have HNN : Hid (numW y = some q) := by show _ = _; have := HOK.out; cases h : numW y with | none => rw [h] at this; cases this | some z => rw [HQV.out z h]
                    have HR9 : Hid (((wr.setCell ⟨A1, 1, none⟩ (.bool false)).setCell ⟨A1, 2, none⟩ (.int .i64 (q : Int))).heap[r]? = some (.cells #[.int .i64 0, .bool false, .int .i64 0, .int .i64 0, .int .i64 0, .int .i64 0, .slice none 0 0] 27 (0, 0))) := HR1.out
                    have HB9 : Hid (Below r w ((wr.setCell ⟨A1, 1, none⟩ (.bool false)).setCell ⟨A1, 2, none⟩ (.int .i64 (q : Int)))) := HB1.out
                    have HA9 : Hid (RAt ((wr.setCell ⟨A1, 1, none⟩ (.bool false)).setCell ⟨A1, 2, none⟩ (.int .i64 (q : Int))) A1 { a with yes := false, which := (q : Int) }) := HA3.out
                    have HG9 : Hid (G = foldN (some ({ a with yes := false, which := (q : Int) }, ws.drop (i + 1))) (f.drop (i + 1))) := by
                      show _ = _
                      rw [HFO.out, show stepN (some (a, y :: ws.drop (i + 1))) 115 = some ({ a with yes := false, which := (q : Int) }, ws.drop (i + 1)) by rw [stepN_some]; show (if y = noneW then some { a with yes := true } else (numW y).map (fun (v : Nat) => { a with yes := false, which := (v : Int) })).map _ = _; rw [if_neg HNO.out, HNN.out]; rfl]
                    go_wp2
                    go_roundw
                    case rel => exact ⟨i + 1, { a with yes := false, which := (q : Int) }, by have := HI.out; omega, by go_num, HA9.out, HG9.out, fun h => absurd h (HNS.out (by simp)), HR9.out, HB9.out⟩
                    case measure => simp [intOf]; have := HI.out; omega
            · have hd : decide ((i : Int) < (m : Int)) = false := by simp; omega
              have dl : ¬ (i : Int) < (m : Int) := by omega
              have HGE : Hid (G = some (a, [])) := by
                show _ = _
                rw [hfold.out, List.drop_of_length_le (by rw [HWM.out]; omega), List.drop_of_length_le (by rw [hlx]; omega)]; rfl
              obtain ⟨va, vc, hab, hby, hnil, hgt⟩ := hat.out
              have HAC := Lib.hid hab
              have HNE : Hid (A1 ≠ r) := by have := HRA.out; show _ ≠ _; omega
              have HABW : Hid (A1 < wr.heap.size) := lt_of_block hab
              have HNI := Lib.hid hnil
              have HBY := Lib.hid hby
              have HGT := Lib.hid hgt
              clear hab hnil hby hgt hat hfold hi hlt HCEL HORK HWL
              go_upto_region 38 with fail
              have HRD : Hid (wr.drew.heap[r]? = some (.cells #[.int .i64 0, .bool false, .int .i64 0, .int .i64 0, .int .i64 0, .int .i64 0, .slice none 0 0] 27 (0, 0))) := hrw.out
              have HZD : Hid (r < wr.drew.heap.size) := lt_of_block hrw.out
              refine wp_region_held_drew (S := fun w' => Save r r wr w') (by kernel_rfl) (show Save r r wr wr.drew from ⟨(Below.refl _ _).drew, fun _ _ _ => rfl⟩) ?_
              intro hS
              generalize wr.drew = WD at hS HRD HZD ⊢
              change wpAnyH _ _ _ _ _ 5 #[false, false, false, false, false] _ _
              refine wpAnyH_take (i := 0) rfl (by kernel_rfl) (by kernel_rfl) (by kernel_rfl) (fun _ _ _ h => h) (yieldsIf_load_mid (by rfl) _ _ rfl A1 0 rfl (actA a (.slice va a.b.length vc)).toList _ (fun w' h => range_row ((h.2 A1 HABW.out HNE.out).trans HAC.out)) Tryd.underlying27 rfl (by rw [act27]; rfl)) hS ?_
              simp only [List.getElem_toArray, List.getElem_cons_succ, List.getElem_cons_zero, Act.put, List.setIfInBounds_toArray, List.set_cons_zero, List.set_cons_succ]
              change wpAnyH _ _ _ _ _ 4 #[true, false, false, false, false] _ _
              refine wpAnyH_take (i := 1) rfl (by kernel_rfl) (by kernel_rfl) (by kernel_rfl) (fun _ _ _ h => h) (yieldsIf_load_mid (by rfl) _ _ rfl A1 0 rfl (actA a (.slice va a.b.length vc)).toList _ (fun w' h => range_row ((h.2 A1 HABW.out HNE.out).trans HAC.out)) Tryd.underlying27 rfl (by rw [act27]; rfl)) hS ?_
              simp only [List.getElem_toArray, List.getElem_cons_succ, List.getElem_cons_zero, Act.put, List.setIfInBounds_toArray, List.set_cons_zero, List.set_cons_succ]
              change wpAnyH _ _ _ _ _ 3 #[true, true, false, false, false] _ _
              refine wpAnyH_ready (rs := [2]) (by kernel_rfl) (by simp) ?_
              refine AllReadyH.cons rfl (fun K hK => ?_) AllReadyH.nil
              rw [if_pos (by rfl)]
              go_simp
              refine (amay_c a va a.b.length vc rfl WD).mono ?_
              rintro e wa ⟨rfl, hb10⟩
              have HRA2 : Hid (wa.heap[r]? = some (.cells #[.int .i64 0, .bool false, .int .i64 0, .int .i64 0, .int .i64 0, .int .i64 0, .slice none 0 0] 27 (0, 0))) := (hb10.block _ HZD.out).trans HRD.out
              have hbx := hb10.mono (Nat.le_of_lt HZD.out)
              have hSx : Save r r wr wa := ⟨hS.1.trans hbx, fun k hk hne => (hb10.block k (Nat.lt_of_lt_of_le hk hS.1.size)).trans (hS.2 k hk hne)⟩
              refine hK.out _ _ (hSx) (fun hSa => ?_)
              clear hK K
              simp only [List.getElem_toArray, List.getElem_cons_succ, List.getElem_cons_zero, Act.put, List.setIfInBounds_toArray, List.set_cons_zero, List.set_cons_succ]
              change wpAnyH _ _ _ _ _ 2 #[true, true, true, false, false] _ _
              refine wpAnyH_ready (rs := [3]) (by kernel_rfl) (by simp) ?_
              refine AllReadyH.cons rfl (fun K hK => ?_) AllReadyH.nil
              rw [if_pos (by rfl)]
              refine wp_store_row 27 (.tmp 2) (.tmp 112) rfl r (actA a (.slice va a.b.length vc)) rfl rfl 27 _ HRA2.out (by rw [act27]; rfl) (by rfl) (actA_one _ _ _ _) ?_
              refine hK.out _ _ (save_row hSa _) (fun hSz => ?_)
              clear hK K
              simp only [List.getElem_toArray, List.getElem_cons_succ, List.getElem_cons_zero, Act.put, List.setIfInBounds_toArray, List.set_cons_zero, List.set_cons_succ]
              change wpAnyH _ _ _ _ _ 1 #[true, true, true, true, false] _ _
              refine wpAnyH_take (i := 4) (v := ?_) rfl (by kernel_rfl) (by kernel_rfl) (by kernel_rfl) (fun _ _ _ h => h) (Or.inl ⟨by rfl, ?hy⟩) hSz ?_
              case hy => intro w' hSw; go_simp; try with_reducible rfl
              simp only [List.getElem_toArray, List.getElem_cons_succ, List.getElem_cons_zero, Act.put, List.setIfInBounds_toArray, List.set_cons_zero, List.set_cons_succ]
              change wpAnyH _ _ _ _ _ 0 #[true, true, true, true, true] _ _
              refine wpAnyH_done (by kernel_rfl) ?_ _
              go_wp2_with fail
              refine bodyPost_ret (results_row_tmp rfl _ _ r 27 (actA a (.slice va a.b.length vc)) (0, 0) _ rfl (setRow_heap _ _ _ _ _ _ HRA2.out) Tryd.underlying27 rfl (by rw [act27]; rfl)) rfl ?_
              have HEN : Hid (actN (x :: ws) = if mayA a = true then some a else none) := by
                show _ = _
                rw [HAN0.out, HGE.out]
                show (if ([] : List (List UInt8)) = [] ∧ mayA a = true then some a else none) = _
                simp
              refine ⟨by rw [← HRW.out]; exact hbel.out.trans hSz.1, a, va, vc, ?_, ?_⟩
              · rw [HEN.out]
                cases hm : mayA a with
                | true => rfl
                | false => rfl
              · intro a' ha'
                rw [HEN.out] at ha'
                have he : a' = a := by
                  split at ha'
                  · cases ha'; rfl
                  · cases ha'
                refine ⟨he, bytes_keep HBY.out (fun g o hg hl => hSz.2 g hl (by have h1 := HGT.out _ _ _ hg; have h2 := HRA.out; intro e; subst e; exact absurd (Nat.lt_trans h2 h1) (Nat.lt_irrefl _))), HNI.out, fun g o z hg => by have h1 := HGT.out g o z hg; have h2 := HRA.out; have h3 := HRW.out; omega⟩
        · have dne : ((n : Int) != 1 + (m : Int)) = true := by simp; omega
          have HAN2 : Hid (actN (x :: ws) = none) := by show _ = _; rw [HAN1.out]; exact end_len (by have := HN.out; have := HM.out; omega)
          clear hlen HAN1
          go_wp2_with fail
          refine (HORK.out wr).mono ?_
          rintro e w3 ⟨rfl, rfl⟩
          have HAN : Hid (actN (x :: ws) = none) := HAN2.out
          go_wp2_with (first
            | (refine wpList_store_row rfl 27 (.tmp 2) (.tmp 41) rfl r (actA zeroAct nilV) rfl rfl 27 _ HRR.out (by rw [act27]; rfl) (by rfl) (actA_one _ _ _ _) ?_)
            | fail)
          refine bodyPost_ret (results_row_tmp rfl _ _ r 27 (actA zeroAct nilV) (0, 0) _ rfl (setRow_heap _ _ _ _ _ _ HRR.out) Tryd.underlying27 rfl (by rw [act27]; rfl)) rfl ?_
          exact ⟨by rw [← HRW.out]; exact below_setRow HBR.out (Nat.le_refl _) _, zeroAct, none, 0, by rw [HAN.out]; rfl, fun a' ha => by rw [HAN.out] at ha; cases ha⟩
end Go.Proofs.YteennbdakjjcfaaDoor
