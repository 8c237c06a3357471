/- An act's line: the reference's Line. Printed by gen_lnn.py. -/
import Derived.Test.YteennbdakjjcfaaDoorLnL
set_option linter.unusedVariables false
set_option linter.unusedSimpArgs false
namespace Go.Proofs.YteennbdakjjcfaaDoor
open Go Go.RowKit Go.Lib
def wordA (a : AN) (c : Nat) : List UInt8 := match c with
  | 119 => numD a.which.toNat
  | 107 => numD a.k.toNat
  | 110 => numD a.n.toNat
  | 97 => numD a.at_.toNat
  | 98 => hexS a.b
  | 111 => if a.yes then [119, 114, 105, 116, 101] else [114, 101, 97, 100]
  | 115 => if a.yes then [110, 111, 110, 101] else numD a.which.toNat
  | _ => []
def lineF (a : AN) (f : List UInt8) : List UInt8 := f.flatMap fun c => 32 :: wordA a c.toNat
def lineA (k : Nat) (a : AN) : List UInt8 := nameK k ++ lineF a (orderK k)
theorem numD_len (n : Nat) : (numD n).length ≤ 5 := numDf_len 4 n
theorem wordA_len (a : AN) (c : Nat) : (wordA a c).length ≤ 5 + 2 * a.b.length := by
  have h1 := numD_len a.which.toNat
  have h2 := numD_len a.k.toNat
  have h3 := numD_len a.n.toNat
  have h4 := numD_len a.at_.toNat
  have h5 := hexS_len a.b
  unfold wordA
  split
  · omega
  · omega
  · omega
  · omega
  · omega
  · split <;> (simp only [List.length_cons, List.length_nil]; omega)
  · split
    · simp only [List.length_cons, List.length_nil]; omega
    · omega
  · simp
theorem lineF_len (a : AN) (f : List UInt8) : (lineF a f).length ≤ f.length * (6 + 2 * a.b.length) := by
  unfold lineF
  induction f with
  | nil => simp
  | cons c f ih =>
    rw [List.flatMap_cons, List.length_append, List.length_cons, List.length_cons, Nat.succ_mul]
    have := wordA_len a c.toNat
    omega
theorem lineF_snoc (a : AN) (f : List UInt8) (i : Nat) (h : i < f.length) : lineF a (f.take (i + 1)) = lineF a (f.take i) ++ (32 :: wordA a (f.getD i 0).toNat) := by
  unfold lineF
  rw [List.take_succ_eq_append_getElem h, List.flatMap_append, List.getD_eq_getElem?_getD, List.getElem?_eq_getElem h]
  simp
theorem name_len (k : Nat) : (nameK k).length ≤ 7 := by
  unfold nameK
  split <;> decide
theorem order_len (k : Nat) : (orderK k).length ≤ 3 := by
  unfold orderK
  split <;> decide
theorem order_signs (k : Nat) : ∀ c ∈ orderK k, c.toNat = 119 ∨ c.toNat = 107 ∨ c.toNat = 110 ∨ c.toNat = 97 ∨ c.toNat = 98 ∨ c.toNat = 111 ∨ c.toNat = 115 := by
  unfold orderK
  split <;> decide
set_option maxRecDepth 100000 in
set_option maxHeartbeats 8000000 in
theorem rline_c (k : Nat) (hk : k < 20) (a : AN) (hak : a.kind = (k : Int)) (va : Option Addr) (bl vc : Nat) (hbl : a.b.length = bl) (hb : bl ≤ 100000) (hr : (0 ≤ a.which ∧ a.which ≤ 65535) ∧ (0 ≤ a.k ∧ a.k ≤ 65535) ∧ (0 ≤ a.n ∧ a.n ≤ 65535) ∧ (0 ≤ a.at_ ∧ a.at_ ≤ 65535)) (w : World) (hB : BytesAt w va vc a.b) :
    Calls Tryd.prog 8 #[.agg (actA a (.slice va bl vc))] w fun e w' => e = .returned (sV (lineA k a)) ∧ Below w.heap.size w w' := by
  have HBK : Hid ((w.alloc (.cells (actA a (.slice va bl vc)) 27)).heap[w.heap.size]? = some (.cells (actA a (.slice va bl vc)) 27 (0, 0))) := heap_new' _ _
  have HBE : Hid (Below w.heap.size w (w.alloc (.cells (actA a (.slice va bl vc)) 27))) := (Below.refl _ _).alloc (Nat.le_refl _) _
  obtain ⟨nw, hnw⟩ : ∃ x : Nat, a.which = (x : Int) := ⟨a.which.toNat, by omega⟩
  obtain ⟨nk, hnk⟩ : ∃ x : Nat, a.k = (x : Int) := ⟨a.k.toNat, by omega⟩
  obtain ⟨nn, hnn⟩ : ∃ x : Nat, a.n = (x : Int) := ⟨a.n.toNat, by omega⟩
  obtain ⟨na, hna⟩ : ∃ x : Nat, a.at_ = (x : Int) := ⟨a.at_.toNat, by omega⟩
  have HX : Hid (∀ w', Below w.heap.size w w' → w'.heap.size > w.heap.size → w'.heap[w.heap.size]? = some (.cells (actA a (.slice va bl vc)) 27 (0, 0)) → w'.cell? ⟨w.heap.size, 1, none⟩ = some (.bool a.yes) ∧ w'.cell? ⟨w.heap.size, 2, none⟩ = some (.int .i64 (nw : Int)) ∧ w'.cell? ⟨w.heap.size, 3, none⟩ = some (.int .i64 (nk : Int)) ∧ w'.cell? ⟨w.heap.size, 4, none⟩ = some (.int .i64 (nn : Int)) ∧ w'.cell? ⟨w.heap.size, 5, none⟩ = some (.int .i64 (na : Int)) ∧ w'.cell? ⟨w.heap.size, 6, none⟩ = some (.slice va bl vc)) := fun w' _ _ h =>
    ⟨(cells_at h 1).trans rfl, (cells_at h 2).trans (by rw [← hnw]; rfl), (cells_at h 3).trans (by rw [← hnk]; rfl), (cells_at h 4).trans (by rw [← hnn]; rfl), (cells_at h 5).trans (by rw [← hna]; rfl), (cells_at h 6).trans rfl⟩
  have HW : Hid (wordA a 119 = numD nw ∧ wordA a 107 = numD nk ∧ wordA a 110 = numD nn ∧ wordA a 97 = numD na ∧ wordA a 98 = hexS a.b ∧ wordA a 111 = (if a.yes then [119, 114, 105, 116, 101] else [114, 101, 97, 100]) ∧ wordA a 115 = (if a.yes then [110, 111, 110, 101] else numD nw)) := by
    have e1 : a.which.toNat = nw := by omega
    have e2 : a.k.toNat = nk := by omega
    have e3 : a.n.toNat = nn := by omega
    have e4 : a.at_.toNat = na := by omega
    unfold wordA
    rw [e1, e2, e3, e4]
    exact ⟨rfl, rfl, rfl, rfl, rfl, rfl, rfl⟩
  have HNUM : Hid (∀ x : Nat, x ≤ 65535 → ∀ w, Calls Tryd.prog 20 #[.int .i64 (x : Int)] w fun e w' => e = .returned (sV (numD x)) ∧ Below w.heap.size w w') := fun x hx w => num20_c 4 x (Nat.lt_of_le_of_lt hx (by decide)) (by decide) w
  have HLE : Hid (nw ≤ 65535 ∧ nk ≤ 65535 ∧ nn ≤ 65535 ∧ na ≤ 65535) := ⟨by omega, by omega, by omega, by omega⟩
  have HHEX : Hid (∀ w', Below w.heap.size w w' → Calls Tryd.prog 21 #[.slice va bl vc] w' fun e w'' => e = .returned (sV (hexS a.b)) ∧ Below w'.heap.size w' w'') := fun w' h => hex21_c va bl vc a.b hbl hb w' (hB.up h (Nat.le_refl _))
  have HORD := Lib.hid (fun w => order19_c k hk w)
  have HNG := Lib.hid (names_get k hk)
  have dk : (k : Int) < 20 := by omega
  have dk0 : ¬ (k : Int) < 0 := by omega
  have c0 := (cells_at HBK.out 0).trans (show _ = some (Value.int .i64 (k : Int)) from by rw [← hak]; rfl)
  have HC0 : Hid (∀ w', Below (w.alloc (.cells (actA a (.slice va bl vc)) 27)).heap.size (w.alloc (.cells (actA a (.slice va bl vc)) 27)) w' → w'.cell? ⟨w.heap.size, 0, none⟩ = some (.int .i64 (k : Int))) := fun w' h => (h.cell (p := ⟨w.heap.size, 0, none⟩) (lt_of_block HBK.out)).trans c0
  obtain ⟨f, hf⟩ : ∃ f, f = orderK k := ⟨_, rfl⟩
  obtain ⟨nm, hnm⟩ : ∃ x, x = nameK k := ⟨_, rfl⟩
  have HLA : Hid (lineA k a = nm ++ lineF a f) := by show _ = _; rw [hnm, hf]; rfl
  have hfl := order_len k
  have hnl := name_len k
  rw [← hf] at hfl HORD
  rw [← hnm] at hnl HNG
  have HSG : Hid (∀ c ∈ f, c.toNat = 119 ∨ c.toNat = 107 ∨ c.toNat = 110 ∨ c.toNat = 97 ∨ c.toNat = 98 ∨ c.toNat = 111 ∨ c.toNat = 115) := by rw [hf]; exact order_signs k
  obtain ⟨n, hn⟩ : ∃ n, n = f.length := ⟨_, rfl⟩
  have hlx : f.length = n := hn.symm
  have HNL : Hid (n ≤ 3 ∧ nm.length ≤ 7 ∧ a.b.length ≤ 100000) := ⟨by omega, hnl, by omega⟩
  have HWL := Lib.hid (fun c => wordA_len a c)
  obtain ⟨ye, hye⟩ : ∃ y, y = a.yes := ⟨_, rfl⟩
  rw [← hye] at HX HW
  clear hnw hnk hnn hna hr hak hbl hb hf hnm hn hfl hnl hye hk c0 hB
  go_enter Tryd.func8, Tryd.ntmps8
  go_wp2_with fail
  generalize w.alloc (.cells (actA a (.slice va bl vc)) 27) = w0 at *
  refine wp_region_held_drew (S := fun w' => Below w0.heap.size w0 w') (by kernel_rfl) (Below.refl _ _).drew ?_
  intro hS
  generalize w0.drew = WD at hS ⊢
  change wpAnyH _ _ _ _ _ 6 #[false, false, false, false, false, false] _ _
  refine wpAnyH_take (i := 1) (v := ?_) rfl (by kernel_rfl) (by kernel_rfl) (by kernel_rfl) (fun _ _ _ h => h) (Or.inl ⟨by rfl, ?hy⟩) hS ?_
  case hy => intro w' hSw; go_simp; try with_reducible rfl
  simp only [List.getElem_toArray, List.getElem_cons_succ, List.getElem_cons_zero, Act.put, List.setIfInBounds_toArray, List.set_cons_zero, List.set_cons_succ]
  change wpAnyH _ _ _ _ _ 5 #[false, true, false, false, false, false] _ _
  refine wpAnyH_take (i := 2) (v := ?_) rfl (by kernel_rfl) (by kernel_rfl) (by kernel_rfl) (fun _ _ _ h => h) (Or.inl ⟨by rfl, ?hy⟩) hS ?_
  case hy => intro w' hSw; have hc0 := HC0.out w' hSw; go_simp; try with_reducible rfl
  simp only [List.getElem_toArray, List.getElem_cons_succ, List.getElem_cons_zero, Act.put, List.setIfInBounds_toArray, List.set_cons_zero, List.set_cons_succ]
  change wpAnyH _ _ _ _ _ 4 #[false, true, true, false, false, false] _ _
  refine wpAnyH_ready (rs := [0]) (by kernel_rfl) (by simp) ?_
  refine AllReadyH.cons rfl (fun K hK => ?_) AllReadyH.nil
  rw [if_pos (by rfl)]
  go_simp
  refine (names_c WD).mono ?_
  rintro e wa ⟨g, rfl, hgb, hbn⟩
  refine hK.out _ _ (hS.trans (hbn.mono hS.size)) (fun hSa => ?_)
  clear hK K
  simp only [List.getElem_toArray, List.getElem_cons_succ, List.getElem_cons_zero, Act.put, List.setIfInBounds_toArray, List.set_cons_zero, List.set_cons_succ]
  change wpAnyH _ _ _ _ _ 3 #[true, true, true, false, false, false] _ _
  refine wpAnyH_ready (rs := [3]) (by kernel_rfl) (by simp) ?_
  refine AllReadyH.cons rfl (fun K hK => ?_) AllReadyH.nil
  rw [if_pos (by rfl)]
  go_simp
  refine hK.out _ wa (hSa) (fun hSb => ?_)
  clear hK K
  simp only [List.getElem_toArray, List.getElem_cons_succ, List.getElem_cons_zero, Act.put, List.setIfInBounds_toArray, List.set_cons_zero, List.set_cons_succ]
  change wpAnyH _ _ _ _ _ 2 #[true, true, true, true, false, false] _ _
  have cg := (cells_at hgb k).trans HNG.out
  refine wpAnyH_ready (rs := [4]) (by kernel_rfl) (by simp) ?_
  refine AllReadyH.cons rfl (fun K hK => ?_) AllReadyH.nil
  rw [if_pos (by rfl)]
  go_simp
  refine hK.out _ wa (hSb) (fun hSc => ?_)
  clear hK K
  simp only [List.getElem_toArray, List.getElem_cons_succ, List.getElem_cons_zero, Act.put, List.setIfInBounds_toArray, List.set_cons_zero, List.set_cons_succ]
  change wpAnyH _ _ _ _ _ 1 #[true, true, true, true, true, false] _ _
  refine wpAnyH_take (i := 5) (v := ?_) rfl (by kernel_rfl) (by kernel_rfl) (by kernel_rfl) (fun _ _ _ h => h) (Or.inl ⟨by rfl, ?hy⟩) hSc ?_
  case hy => intro w' hSw; go_simp; try with_reducible rfl
  simp only [List.getElem_toArray, List.getElem_cons_succ, List.getElem_cons_zero, Act.put, List.setIfInBounds_toArray, List.set_cons_zero, List.set_cons_succ]
  change wpAnyH _ _ _ _ _ 0 #[true, true, true, true, true, true] _ _
  refine wpAnyH_done (by kernel_rfl) ?_ _
  have HEA : Hid (Below w.heap.size w wa) := HBE.out.trans (hSc.mono HBE.out.size)
  have HKA : Hid (wa.heap[w.heap.size]? = some (.cells (actA a (.slice va bl vc)) 27 (0, 0))) := (hSc.block _ (lt_of_block HBK.out)).trans HBK.out
  have hc0 := HC0.out wa hSc
  clear hS hSa hSb hSc cg hgb hbn HC0 HNG dk dk0
  go_wp2_with fail
  refine (HORD.out wa).mono ?_
  rintro e w1 ⟨rfl, rfl⟩
  clear hc0 HORD
  go_wp2
  go_loopw [3, 5] (fun vs vi wr => ∃ i : Nat, i ≤ n ∧ vi = .int .i64 (i : Int) ∧ vs = sV (nm ++ lineF a (f.take i)) ∧ Hid (wr.heap[w.heap.size]? = some (.cells (actA a (.slice va bl vc)) 27 (0, 0))) ∧ Hid (Below w.heap.size w wr)) (fun _ vi _ => n - (intOf vi).toNat)
  case atStart => exact ⟨0, by omega, rfl, by rw [List.take_zero]; show _ = sV (nm ++ []); rw [List.append_nil], HKA.out, HEA.out⟩
  case round =>
    clear HKA HEA
    obtain ⟨i, hi, rfl, rfl, hkb, hbel⟩ := hrel
    by_cases hlt : i < n
    · have hd : decide ((i : Int) < (n : Int)) = true := by simp; omega
      have dl : (i : Int) < (n : Int) := by omega
      have hix := fun w : World => run_index_sV w 9 f i Tryd.underlying9 (by rw [hlx]; exact hlt)
      obtain ⟨c, hc⟩ : ∃ c, c = (f.getD i 0).toNat := ⟨_, rfl⟩
      rw [← hc] at hix
      have HC7 : Hid (c = 119 ∨ c = 107 ∨ c = 110 ∨ c = 97 ∨ c = 98 ∨ c = 111 ∨ c = 115) := by
        show _ ∨ _
        rw [hc, List.getD_eq_getElem?_getD, List.getElem?_eq_getElem (by rw [hlx]; exact hlt)]
        exact HSG.out _ (List.getElem_mem _)
      obtain ⟨W_, hW⟩ : ∃ x, x = wordA a c := ⟨_, rfl⟩
      have hWl := HWL.out c
      rw [← hW] at hWl
      have hS1 := lineF_snoc a f i (by rw [hlx]; exact hlt)
      rw [← hc, ← hW] at hS1
      obtain ⟨X, hX⟩ : ∃ x, x = nm ++ lineF a (f.take i) := ⟨_, rfl⟩
      have HNX : Hid (nm ++ lineF a (f.take (i + 1)) = X ++ 32 :: W_) := by show _ = _; rw [hS1, hX, List.append_assoc]
      have hXl : X.length ≤ 7 + 3 * 200006 := by
        have h1 := lineF_len a (f.take i)
        have h2 : (f.take i).length ≤ 3 := by rw [List.length_take]; have := HNL.out; omega
        have h3 : (f.take i).length * (6 + 2 * a.b.length) ≤ 3 * (6 + 2 * a.b.length) := Nat.mul_le_mul_right _ h2
        have h4 := HNL.out
        rw [hX, List.length_append]
        omega
      have hx1 : X.length + 1 ≤ 9223372036854775807 := by omega
      have hx2 : X.length + 1 + W_.length ≤ 9223372036854775807 := by have := HNL.out; omega
      have hx5 : X.length + 6 ≤ 9223372036854775807 := by omega
      have hx6 : X.length + 5 ≤ 9223372036854775807 := by omega
      have hx7 : X.length ≤ 9223372036854775801 := by omega
      have hx8 : X.length ≤ 9223372036854775802 := by omega
      have hx9 : X.length + 1 + 5 ≤ 9223372036854775807 := by omega
      have hx10 : X.length + 1 + 4 ≤ 9223372036854775807 := by omega
      have hx3 : X.length + (1 + W_.length) ≤ 9223372036854775807 := by omega
      have hx4 : X.length + (W_.length + 1) ≤ 9223372036854775807 := by omega
      rw [← hX]
      obtain ⟨c1, c2, c3, c4, c5, c6⟩ := HX.out wr hbel.out (lt_of_block hkb.out) hkb.out
      have HI := Lib.hid hlt
      have HWE := Lib.hid hW
      have ek : IntKind.i64.wrap ((i : Int) + 1) = (i : Int) + 1 := by have := HNL.out; exact IntWalk.i64_in _ (by omega)
      clear hc hW hWl hS1 hX hXl hi hlt
      rcases HC7.out with rfl | rfl | rfl | rfl | rfl | rfl | rfl
      · have hwe := HWE.out.trans (HW.out.1)
        go_wp2_with fail
        refine (HNUM.out nw HLE.out.1 wr).mono ?_
        rintro e w1 ⟨rfl, hb1⟩
        have HE1 : Hid (Below w.heap.size w w1) := hbel.out.trans (hb1.mono hbel.out.size)
        have HK1 := Lib.hid ((hb1.block _ (lt_of_block hkb.out)).trans hkb.out)
        clear hb1 hkb hbel c1 c2 c3 c4 c5 c6
        rw [← hwe]
        clear hwe
        go_wp2
        go_roundw
        case rel => exact ⟨i + 1, by have := HI.out; omega, by go_num, by first | rfl | (rw [HNX.out]; done) | (rw [HNX.out]; simp; done), HK1.out, HE1.out⟩
        case measure => simp [intOf]; have := HI.out; omega
      · have hwe := HWE.out.trans (HW.out.2.1)
        go_wp2_with fail
        refine (HNUM.out nk HLE.out.2.1 wr).mono ?_
        rintro e w1 ⟨rfl, hb1⟩
        have HE1 : Hid (Below w.heap.size w w1) := hbel.out.trans (hb1.mono hbel.out.size)
        have HK1 := Lib.hid ((hb1.block _ (lt_of_block hkb.out)).trans hkb.out)
        clear hb1 hkb hbel c1 c2 c3 c4 c5 c6
        rw [← hwe]
        clear hwe
        go_wp2
        go_roundw
        case rel => exact ⟨i + 1, by have := HI.out; omega, by go_num, by first | rfl | (rw [HNX.out]; done) | (rw [HNX.out]; simp; done), HK1.out, HE1.out⟩
        case measure => simp [intOf]; have := HI.out; omega
      · have hwe := HWE.out.trans (HW.out.2.2.1)
        go_wp2_with fail
        refine (HNUM.out nn HLE.out.2.2.1 wr).mono ?_
        rintro e w1 ⟨rfl, hb1⟩
        have HE1 : Hid (Below w.heap.size w w1) := hbel.out.trans (hb1.mono hbel.out.size)
        have HK1 := Lib.hid ((hb1.block _ (lt_of_block hkb.out)).trans hkb.out)
        clear hb1 hkb hbel c1 c2 c3 c4 c5 c6
        rw [← hwe]
        clear hwe
        go_wp2
        go_roundw
        case rel => exact ⟨i + 1, by have := HI.out; omega, by go_num, by first | rfl | (rw [HNX.out]; done) | (rw [HNX.out]; simp; done), HK1.out, HE1.out⟩
        case measure => simp [intOf]; have := HI.out; omega
      · have hwe := HWE.out.trans (HW.out.2.2.2.1)
        go_wp2_with fail
        refine (HNUM.out na HLE.out.2.2.2 wr).mono ?_
        rintro e w1 ⟨rfl, hb1⟩
        have HE1 : Hid (Below w.heap.size w w1) := hbel.out.trans (hb1.mono hbel.out.size)
        have HK1 := Lib.hid ((hb1.block _ (lt_of_block hkb.out)).trans hkb.out)
        clear hb1 hkb hbel c1 c2 c3 c4 c5 c6
        rw [← hwe]
        clear hwe
        go_wp2
        go_roundw
        case rel => exact ⟨i + 1, by have := HI.out; omega, by go_num, by first | rfl | (rw [HNX.out]; done) | (rw [HNX.out]; simp; done), HK1.out, HE1.out⟩
        case measure => simp [intOf]; have := HI.out; omega
      · have hwe := HWE.out.trans (HW.out.2.2.2.2.1)
        go_wp2_with fail
        refine (HHEX.out wr hbel.out).mono ?_
        rintro e w1 ⟨rfl, hb1⟩
        have HE1 : Hid (Below w.heap.size w w1) := hbel.out.trans (hb1.mono hbel.out.size)
        have HK1 := Lib.hid ((hb1.block _ (lt_of_block hkb.out)).trans hkb.out)
        clear hb1 hkb hbel c1 c2 c3 c4 c5 c6
        rw [← hwe]
        clear hwe
        go_wp2
        go_roundw
        case rel => exact ⟨i + 1, by have := HI.out; omega, by go_num, by first | rfl | (rw [HNX.out]; done) | (rw [HNX.out]; simp; done), HK1.out, HE1.out⟩
        case measure => simp [intOf]; have := HI.out; omega
      · have hwe := HWE.out.trans (HW.out.2.2.2.2.2.1)
        cases ye with
        | true =>
          have hwe2 : W_ = [119, 114, 105, 116, 101] := hwe
          clear hwe
          subst hwe2
          have HE1 := Lib.hid hbel.out
          have HK1 := Lib.hid hkb.out
          clear hkb hbel c2 c3 c4 c5 c6
          go_wp2
          go_roundw
          case rel => exact ⟨i + 1, by have := HI.out; omega, by go_num, by first | rfl | (rw [HNX.out]; done) | (rw [HNX.out]; simp; done), HK1.out, HE1.out⟩
          case measure => simp [intOf]; have := HI.out; omega
        | false =>
          have hwe2 : W_ = [114, 101, 97, 100] := hwe
          clear hwe
          subst hwe2
          have HE1 := Lib.hid hbel.out
          have HK1 := Lib.hid hkb.out
          clear hkb hbel c2 c3 c4 c5 c6
          go_wp2
          go_roundw
          case rel => exact ⟨i + 1, by have := HI.out; omega, by go_num, by first | rfl | (rw [HNX.out]; done) | (rw [HNX.out]; simp; done), HK1.out, HE1.out⟩
          case measure => simp [intOf]; have := HI.out; omega
      · have hwe := HWE.out.trans (HW.out.2.2.2.2.2.2)
        cases ye with
        | true =>
          have hwe2 : W_ = [110, 111, 110, 101] := hwe
          clear hwe
          go_wp2_with fail
          refine (HNUM.out nw HLE.out.1 wr).mono ?_
          rintro e w1 ⟨rfl, hb1⟩
          have HE1 : Hid (Below w.heap.size w w1) := hbel.out.trans (hb1.mono hbel.out.size)
          have HK1 := Lib.hid ((hb1.block _ (lt_of_block hkb.out)).trans hkb.out)
          have c1' : w1.cell? ⟨w.heap.size, 1, none⟩ = some (.bool true) := (cells_at HK1.out 1).trans ((cells_at hkb.out 1).symm.trans c1)
          clear hb1 hkb hbel c1 c2 c3 c4 c5 c6
          subst hwe2
          go_wp2
          go_roundw
          case rel => exact ⟨i + 1, by have := HI.out; omega, by go_num, by first | rfl | (rw [HNX.out]; done) | (rw [HNX.out]; simp; done), HK1.out, HE1.out⟩
          case measure => simp [intOf]; have := HI.out; omega
        | false =>
          have hwe2 : W_ = numD nw := hwe
          clear hwe
          go_wp2_with fail
          refine (HNUM.out nw HLE.out.1 wr).mono ?_
          rintro e w1 ⟨rfl, hb1⟩
          have HE1 : Hid (Below w.heap.size w w1) := hbel.out.trans (hb1.mono hbel.out.size)
          have HK1 := Lib.hid ((hb1.block _ (lt_of_block hkb.out)).trans hkb.out)
          have c1' : w1.cell? ⟨w.heap.size, 1, none⟩ = some (.bool false) := (cells_at HK1.out 1).trans ((cells_at hkb.out 1).symm.trans c1)
          clear hb1 hkb hbel c1 c2 c3 c4 c5 c6
          rw [← hwe2]
          clear hwe2
          go_wp2
          go_roundw
          case rel => exact ⟨i + 1, by have := HI.out; omega, by go_num, by first | rfl | (rw [HNX.out]; done) | (rw [HNX.out]; simp; done), HK1.out, HE1.out⟩
          case measure => simp [intOf]; have := HI.out; omega
    · have hd : decide ((i : Int) < (n : Int)) = false := by simp; omega
      have dl : ¬ (i : Int) < (n : Int) := by omega
      have HE : Hid (lineA k a = nm ++ lineF a (f.take i)) := by show _ = _; rw [HLA.out, List.take_of_length_le (by rw [hlx]; omega)]
      go_wp2
      go_ret
      exact ⟨by rw [HE.out]; rfl, hbel.out⟩
end Go.Proofs.YteennbdakjjcfaaDoor
