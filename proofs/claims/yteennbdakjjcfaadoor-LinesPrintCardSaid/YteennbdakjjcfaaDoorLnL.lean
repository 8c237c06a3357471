/- Bytes' signs; an act's line: the reference's. Printed by gen_lnl.py. -/
import Derived.Test.YteennbdakjjcfaaDoorLnK
set_option linter.unusedVariables false
set_option linter.unusedSimpArgs false
namespace Go.Proofs.YteennbdakjjcfaaDoor
open Go Go.RowKit Go.Lib
theorem wp_append_bytes {w : World} {o : Oper} {A : Act} {K : Act → World → Prop} {Q : Exit → Act → World → Prop} (s x : Operand)
    (ho : o.op = .call { callee := .builtin .append, args := #[s, x], argTypes := #[25, 25] }) {base n : Nat} {v : Value} {xs : List Value} (hs : A.eval s = v) (hown : w.ownsRow base 5 1 v n xs)
    {a : Option Addr} {cap m : Nat} {l : List Nat} (hx : A.eval x = .slice a m cap) (hm : l.length = m) (hB : BytesAt w a cap l) (hnil : a = none → cap = 0) (h63 : n + m ≤ 1000000) (hbase : base ≤ w.heap.size)
    (h : ∀ v' w', w'.ownsRow base 5 1 v' (n + m) (xs ++ (bA l).toList) → w.grownBy w' v.ownBlock → K (A.put o.dst v') w') : Oper.wp Tryd.prog o A w K Q := by
  obtain ⟨v', w', h1, h2, h3⟩ := run_append_bytes o.type hown hm hB hnil h63 hbase
  unfold Oper.wp execOp
  simp only [ho, resolve, invoke, builtin, Sem.run_bind, Sem.run_pure, Result.andThen_ok, List.map_toArray, List.map_cons, List.map_nil, hs, hx, h1]
  exact h v' w' h2 h3
def signN (d : Nat) : Nat := if d < 10 then 48 + d else 87 + d
theorem sign_get : ∀ d : Nat, d < 16 → (hexSigns.getD d 0).toNat = signN d := by decide +kernel
def hexB (b : List Nat) : List Nat := b.flatMap fun c => [signN (c / 16), signN (c % 16)]
def hexS (b : List Nat) : List UInt8 := if b = [] then [45] else (hexB b).map UInt8.ofNat
theorem hexB_len (b : List Nat) : (hexB b).length = 2 * b.length := by
  unfold hexB
  induction b with
  | nil => rfl
  | cons c b ih => rw [List.flatMap_cons, List.length_append, ih, List.length_cons]; simp; omega
theorem hexB_snoc (b : List Nat) (k : Nat) (h : k < b.length) : hexB (b.take (k + 1)) = hexB (b.take k) ++ [signN (b.getD k 0 / 16), signN (b.getD k 0 % 16)] := by
  unfold hexB
  rw [List.take_succ_eq_append_getElem h, List.flatMap_append, List.getD_eq_getElem?_getD, List.getElem?_eq_getElem h]
  simp
theorem signN_lt (d : Nat) (h : d < 16) : signN d < 256 := by unfold signN; split <;> omega
theorem hexB_lt (b : List Nat) (h : ∀ x ∈ b, x < 256) : ∀ x ∈ hexB b, x < 256 := by
  intro x hx
  unfold hexB at hx
  rw [List.mem_flatMap] at hx
  obtain ⟨c, hc, hx⟩ := hx
  have := h c hc
  simp only [List.mem_cons, List.not_mem_nil, or_false] at hx
  rcases hx with rfl | rfl
  · exact signN_lt _ (by omega)
  · exact signN_lt _ (by omega)
theorem hexS_len (b : List Nat) : (hexS b).length ≤ 1 + 2 * b.length := by
  unfold hexS
  split
  · simp
  · rw [List.length_map, hexB_len]; omega
theorem run_index_sVu {P : Program} (w : World) (t : TypeId) (i : Nat) (h : P.underlying t = some .string) (hi : i < 16) : (Instr.index t (.string ⟨#[48, 49, 50, 51, 52, 53, 54, 55, 56, 57, 97, 98, 99, 100, 101, 102]⟩) (.int .u8 (i : Int))).run P w = .ok (.int .u8 ((signN i : Nat) : Int)) w := by
  show (Instr.index t (.string ⟨hexSigns.toArray⟩) (.int .u8 (i : Int))).run P w = _
  rw [run_index_string w t _ .u8 _ h, dif_pos ⟨by omega, by rw [size_sV]; show (i : Int) < 16; omega⟩, ← sign_get i hi]
  congr 3
  show ((hexSigns.toArray)[(i : Int).toNat]'_).toNat = _
  rw [List.getD_eq_getElem?_getD, List.getElem?_eq_getElem (show i < hexSigns.length from hi)]
  rfl
set_option maxRecDepth 100000 in
set_option maxHeartbeats 4000000 in
theorem hex21_c (va : Option Addr) (n vc : Nat) (b : List Nat) (hb : b.length = n) (hn : n ≤ 100000) (w : World) (h : BytesAt w va vc b) :
    Calls Tryd.prog 21 #[.slice va n vc] w fun e w' => e = .returned (sV (hexS b)) ∧ Below w.heap.size w w' := by
  by_cases h0 : n = 0
  · have HV : Hid (hexS b = [45]) := by show _ = _; unfold hexS; rw [if_pos (List.length_eq_zero_iff.1 (by omega))]
    subst h0
    clear hb hn h
    go_enter Tryd.func21, Tryd.ntmps21
    go_wp2
    go_ret
    exact ⟨by rw [HV.out]; rfl, Below.refl _ _⟩
  · have i0 : ¬ (n : Int) = 0 := by omega
    have b0 : ((n : Int) == 0) = false := by simp; omega
    have b1 : decide ((n : Int) = 0) = false := by simp; omega
    have HV : Hid (hexS b = (hexB b).map UInt8.ofNat) := by show _ = _; unfold hexS; rw [if_neg (fun h => h0 (by rw [← hb, h]; rfl))]
    have HBN : Hid (b.length = n ∧ n ≤ 100000) := ⟨hb, hn⟩
    obtain ⟨g, o, hva, _, hg, hc⟩ := h.2 (by omega)
    subst hva
    have HC : Hid (∀ w', Below w.heap.size w w' → ∀ j, j < n → w'.cell? ⟨g, o + j, none⟩ = some (.int .u8 ((b.getD j 0 : Nat) : Int))) := fun w' hb' j hj => (hb'.cell (p := ⟨g, o + j, none⟩) hg).trans (hc j (by omega))
    have HLT := Lib.hid h.1
    clear h hb hn hc hg h0
    go_enter Tryd.func21, Tryd.ntmps21
    go_wp2
    go_loopw [4, 12] (fun vo vi wr => ∃ k m : Nat, k ≤ n ∧ vi = .int .i64 (k : Int) ∧ Hid (m = 2 * k) ∧ ∃ a c, vo = .slice a m c ∧ Hid (wr.ownsRow w.heap.size 5 1 (.slice a m c) m (bA (hexB (b.take k))).toList) ∧ Hid (Below w.heap.size w wr)) (fun _ vi _ => n - (intOf vi).toNat)
    case atStart => exact ⟨0, 0, by omega, rfl, rfl, none, 0, rfl, World.ownsRow_nil _ _ _ _, Below.refl _ _⟩
    case round =>
      obtain ⟨k, m, hk, rfl, hm, a, c, rfl, hown, hbel⟩ := hrel
      by_cases hlt : k < n
      · have hd : decide ((k : Int) < (n : Int)) = true := by simp; omega
        have dl : (k : Int) < (n : Int) := by omega
        have d0 : ¬ (k : Int) < 0 := by omega
        have cl := HC.out wr hbel.out k hlt
        obtain ⟨x, hx⟩ : ∃ x, x = b.getD k 0 := ⟨_, rfl⟩
        rw [← hx] at cl
        have hx256 : x < 256 := by rw [hx]; exact getD_lt HLT.out _
        obtain ⟨u, hu⟩ : ∃ u, u = x / 16 := ⟨_, rfl⟩
        obtain ⟨v, hv⟩ : ∃ v, v = x % 16 := ⟨_, rfl⟩
        have eu : (x : Int) / 16 = (u : Int) := by omega
        have ev : (x : Int) % 16 = (v : Int) := by omega
        have ev2 : (x : Int).tmod 16 = (v : Int) := by rw [Int.tmod_eq_emod_of_nonneg (by omega)]; omega
        have euw : IntKind.u8.wrap (u : Int) = (u : Int) := by rw [IntKind.wrap_u8]; omega
        have evw : IntKind.u8.wrap (v : Int) = (v : Int) := by rw [IntKind.wrap_u8]; omega
        have hiu := fun w : World => run_index_sVu w 9 u Tryd.underlying9 (by omega)
        have hiv := fun w : World => run_index_sVu w 9 v Tryd.underlying9 (by omega)
        obtain ⟨su, hsu⟩ : ∃ y, y = signN u := ⟨_, rfl⟩
        obtain ⟨sv, hsv⟩ : ∃ y, y = signN v := ⟨_, rfl⟩
        rw [← hsu] at hiu
        rw [← hsv] at hiv
        have HNX : Hid (hexB (b.take (k + 1)) = hexB (b.take k) ++ [su, sv]) := by show _ = _; rw [hexB_snoc b k (by rw [HBN.out.1]; exact hlt), ← hx, ← hu, ← hv, ← hsu, ← hsv]
        have HSU : Hid (su < 256 ∧ sv < 256) := ⟨by rw [hsu]; exact signN_lt _ (by omega), by rw [hsv]; exact signN_lt _ (by omega)⟩
        have HK := Lib.hid hlt
        have ek : IntKind.i64.wrap ((k : Int) + 1) = (k : Int) + 1 := by have := HBN.out.2; exact IntWalk.i64_in _ (by omega)
        clear hx hu hv hsu hsv hx256 hk
        go_wp2_with fail
        refine wp_region_held_drew (S := fun _ => True) (by kernel_rfl) trivial ?_
        intro hS
        have HO1 : Hid (wr.drew.ownsRow w.heap.size 5 1 (.slice a m c) m (bA (hexB (b.take k))).toList) := hown.out
        have HE1 : Hid (Below w.heap.size w wr.drew) := hbel.out.drew
        generalize wr.drew = WD at *
        change wpAnyH _ _ _ _ _ 12 #[false, false, false, false, false, false, false, false, false, false, false, false] _ _
        refine wpAnyH_take (i := 0) (v := ?_) rfl (by kernel_rfl) (by kernel_rfl) (by kernel_rfl) (fun _ _ _ h => h) (Or.inl ⟨by rfl, ?hy⟩) hS ?_
        case hy => intro w' hSw; go_simp; try with_reducible rfl
        simp only [List.getElem_toArray, List.getElem_cons_succ, List.getElem_cons_zero, Act.put, List.setIfInBounds_toArray, List.set_cons_zero, List.set_cons_succ]
        change wpAnyH _ _ _ _ _ 11 #[true, false, false, false, false, false, false, false, false, false, false, false] _ _
        refine wpAnyH_take (i := 1) (v := ?_) rfl (by kernel_rfl) (by kernel_rfl) (by kernel_rfl) (fun _ _ _ h => h) (Or.inl ⟨by rfl, ?hy⟩) hS ?_
        case hy => intro w' hSw; go_simp; try with_reducible rfl
        simp only [List.getElem_toArray, List.getElem_cons_succ, List.getElem_cons_zero, Act.put, List.setIfInBounds_toArray, List.set_cons_zero, List.set_cons_succ]
        change wpAnyH _ _ _ _ _ 10 #[true, true, false, false, false, false, false, false, false, false, false, false] _ _
        refine wpAnyH_take (i := 2) (v := ?_) rfl (by kernel_rfl) (by kernel_rfl) (by kernel_rfl) (fun _ _ _ h => h) (Or.inl ⟨by rfl, ?hy⟩) hS ?_
        case hy => intro w' hSw; go_simp; try with_reducible rfl
        simp only [List.getElem_toArray, List.getElem_cons_succ, List.getElem_cons_zero, Act.put, List.setIfInBounds_toArray, List.set_cons_zero, List.set_cons_succ]
        change wpAnyH _ _ _ _ _ 9 #[true, true, true, false, false, false, false, false, false, false, false, false] _ _
        refine wpAnyH_take (i := 3) (v := ?_) rfl (by kernel_rfl) (by kernel_rfl) (by kernel_rfl) (fun _ _ _ h => h) (Or.inl ⟨by rfl, ?hy⟩) hS ?_
        case hy => intro w' hSw; go_simp; try with_reducible rfl
        simp only [List.getElem_toArray, List.getElem_cons_succ, List.getElem_cons_zero, Act.put, List.setIfInBounds_toArray, List.set_cons_zero, List.set_cons_succ]
        change wpAnyH _ _ _ _ _ 8 #[true, true, true, true, false, false, false, false, false, false, false, false] _ _
        refine wpAnyH_take (i := 4) (v := ?_) rfl (by kernel_rfl) (by kernel_rfl) (by kernel_rfl) (fun _ _ _ h => h) (Or.inl ⟨by rfl, ?hy⟩) hS ?_
        case hy => intro w' hSw; go_simp; try with_reducible rfl
        simp only [List.getElem_toArray, List.getElem_cons_succ, List.getElem_cons_zero, Act.put, List.setIfInBounds_toArray, List.set_cons_zero, List.set_cons_succ]
        change wpAnyH _ _ _ _ _ 7 #[true, true, true, true, true, false, false, false, false, false, false, false] _ _
        refine wpAnyH_take (i := 5) (v := ?_) rfl (by kernel_rfl) (by kernel_rfl) (by kernel_rfl) (fun _ _ _ h => h) (Or.inl ⟨by rfl, ?hy⟩) hS ?_
        case hy => intro w' hSw; go_simp; try with_reducible rfl
        simp only [List.getElem_toArray, List.getElem_cons_succ, List.getElem_cons_zero, Act.put, List.setIfInBounds_toArray, List.set_cons_zero, List.set_cons_succ]
        change wpAnyH _ _ _ _ _ 6 #[true, true, true, true, true, true, false, false, false, false, false, false] _ _
        refine wpAnyH_take (i := 6) (v := ?_) rfl (by kernel_rfl) (by kernel_rfl) (by kernel_rfl) (fun _ _ _ h => h) (Or.inl ⟨by rfl, ?hy⟩) hS ?_
        case hy => intro w' hSw; go_simp; try with_reducible rfl
        simp only [List.getElem_toArray, List.getElem_cons_succ, List.getElem_cons_zero, Act.put, List.setIfInBounds_toArray, List.set_cons_zero, List.set_cons_succ]
        change wpAnyH _ _ _ _ _ 5 #[true, true, true, true, true, true, true, false, false, false, false, false] _ _
        refine wpAnyH_take (i := 7) (v := ?_) rfl (by kernel_rfl) (by kernel_rfl) (by kernel_rfl) (fun _ _ _ h => h) (Or.inl ⟨by rfl, ?hy⟩) hS ?_
        case hy => intro w' hSw; go_simp; try with_reducible rfl
        simp only [List.getElem_toArray, List.getElem_cons_succ, List.getElem_cons_zero, Act.put, List.setIfInBounds_toArray, List.set_cons_zero, List.set_cons_succ]
        change wpAnyH _ _ _ _ _ 4 #[true, true, true, true, true, true, true, true, false, false, false, false] _ _
        refine wpAnyH_take (i := 8) (v := ?_) rfl (by kernel_rfl) (by kernel_rfl) (by kernel_rfl) (fun _ _ _ h => h) (Or.inl ⟨by rfl, ?hy⟩) hS ?_
        case hy => intro w' hSw; go_simp; try with_reducible rfl
        simp only [List.getElem_toArray, List.getElem_cons_succ, List.getElem_cons_zero, Act.put, List.setIfInBounds_toArray, List.set_cons_zero, List.set_cons_succ]
        change wpAnyH _ _ _ _ _ 3 #[true, true, true, true, true, true, true, true, true, false, false, false] _ _
        refine wpAnyH_ready (rs := [9]) (by kernel_rfl) (by simp) ?_
        refine AllReadyH.cons rfl (fun K hK => ?_) AllReadyH.nil
        rw [if_pos (by rfl)]
        go_simp
        have HBS : Hid (BytesAt (WD.alloc (.cells #[.int .u8 (su : Int), .int .u8 (sv : Int)] 5)) (some ⟨WD.heap.size, 0, none⟩) 2 [su, sv]) := bytesAt_block (l := [su, sv]) (by simp; exact HSU.out) (heap_new' _ _)
        have HOA : Hid ((WD.alloc (.cells #[.int .u8 (su : Int), .int .u8 (sv : Int)] 5)).ownsRow w.heap.size 5 1 (.slice a m c) m (bA (hexB (b.take k))).toList) := World.ownsRow.alloc HO1.out _
        have HEA : Hid (Below w.heap.size w (WD.alloc (.cells #[.int .u8 (su : Int), .int .u8 (sv : Int)] 5))) := HE1.out.alloc HE1.out.size _
        refine hK.out _ (WD.alloc (.cells #[.int .u8 (su : Int), .int .u8 (sv : Int)] 5)) (hS) (fun hSa => ?_)
        clear hK K
        simp only [List.getElem_toArray, List.getElem_cons_succ, List.getElem_cons_zero, Act.put, List.setIfInBounds_toArray, List.set_cons_zero, List.set_cons_succ]
        change wpAnyH _ _ _ _ _ 2 #[true, true, true, true, true, true, true, true, true, true, false, false] _ _
        refine wpAnyH_ready (rs := [10]) (by kernel_rfl) (by simp) ?_
        refine AllReadyH.cons rfl (fun K hK => ?_) AllReadyH.nil
        rw [if_pos (by rfl)]
        refine wp_append_bytes (v := .slice a m c) (base := w.heap.size) (n := m) (m := 2) (l := [su, sv]) (.tmp 16) (.tmp 25) rfl rfl HOA.out rfl rfl HBS.out (fun h => by cases h) (by have := hm.out; have := HBN.out; have := HK.out; omega) HEA.out.size ?_
        intro v3 w3 hown3 hgr3
        rw [bA_app, ← HNX.out] at hown3
        have HO3 := Lib.hid hown3
        have HE3 : Hid (Below w.heap.size w w3) := HEA.out.grown hgr3 HEA.out.size (fun q h => (HOA.out.lt q h).1)
        obtain ⟨a3, c3, hv3⟩ := own_slice hown3
        subst hv3
        clear hown3 hgr3
        refine hK.out _ w3 (hSa) (fun hSb => ?_)
        clear hK K
        simp only [List.getElem_toArray, List.getElem_cons_succ, List.getElem_cons_zero, Act.put, List.setIfInBounds_toArray, List.set_cons_zero, List.set_cons_succ]
        change wpAnyH _ _ _ _ _ 1 #[true, true, true, true, true, true, true, true, true, true, true, false] _ _
        refine wpAnyH_take (i := 11) (v := ?_) rfl (by kernel_rfl) (by kernel_rfl) (by kernel_rfl) (fun _ _ _ h => h) (Or.inl ⟨by rfl, ?hy⟩) hSb ?_
        case hy => intro w' hSw; go_simp; try with_reducible rfl
        simp only [List.getElem_toArray, List.getElem_cons_succ, List.getElem_cons_zero, Act.put, List.setIfInBounds_toArray, List.set_cons_zero, List.set_cons_succ]
        change wpAnyH _ _ _ _ _ 0 #[true, true, true, true, true, true, true, true, true, true, true, true] _ _
        refine wpAnyH_done (by kernel_rfl) ?_ _
        go_wp2
        go_roundw
        case rel => exact ⟨k + 1, m + 2, by have := HK.out; omega, by go_num, by have := hm.out; show _ = _; omega, a3, c3, rfl, HO3.out, HE3.out⟩
        case measure => simp [intOf]; have := HK.out; omega
      · have hd : decide ((k : Int) < (n : Int)) = false := by simp; omega
        have dl : ¬ (k : Int) < (n : Int) := by omega
        have hkn : k = b.length := by have := HBN.out; omega
        have hown2 := hown.out
        rw [hkn, List.take_length] at hown2
        obtain ⟨a4, c4, hv4, hb4, hl4, _⟩ := own_bytes (hexB_lt b HLT.out) hown2
        injection hv4 with e1 _ e2
        subst e1 e2
        have HB4 := Lib.hid hb4
        have HL4 := Lib.hid hl4
        clear hkn hown2 hb4 hl4
        go_wp2_with (first
          | (refine wpList_conv_s rfl (.tmp 28) (l := hexB b) (t := (hexB b).map UInt8.ofNat) rfl HL4.out HB4.out rfl rfl ?_)
          | fail)
        go_ret
        exact ⟨by rw [HV.out]; rfl, hbel.out⟩
end Go.Proofs.YteennbdakjjcfaaDoor
