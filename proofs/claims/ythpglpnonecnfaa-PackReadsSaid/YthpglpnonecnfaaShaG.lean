/- The contract of Hash.block. -/
import Derived.Test.YthpglpnonecnfaaShaF
set_option linter.unusedVariables false
set_option linter.unusedSimpArgs false
namespace Go.Proofs.Ythpglpnonecnfaa
open Go Go.RowKit Sha
def addP (a b : List Nat) (k : Nat) : List Nat := (List.zipWith (fun x y => (x + y) % 4294967296) a b).take k ++ a.drop k
theorem addP_len (a b : List Nat) (k : Nat) (h : a.length = b.length) (hk : k ≤ a.length) : (addP a b k).length = a.length := by
  unfold addP; simp; omega
theorem addP_zero (a b : List Nat) : addP a b 0 = a := by simp [addP]
theorem addP_get (a b : List Nat) (k : Nat) (h : a.length = b.length) (hk : k < a.length) : (addP a b k).getD k 0 = a.getD k 0 := by
  unfold addP
  rw [List.getD_eq_getElem?_getD, List.getElem?_append_right (by simp; omega)]
  simp [List.getD_eq_getElem?_getD]
  rw [Nat.min_eq_left (by omega)]; simp
theorem addP_set (a b : List Nat) (k : Nat) (h : a.length = b.length) (hk : k < a.length) : (addP a b k).set k ((a.getD k 0 + b.getD k 0) % 4294967296) = addP a b (k + 1) := by
  unfold addP
  rw [List.set_append_right _ _ (by simp; omega)]
  have hl : (List.take k (List.zipWith (fun x y => (x + y) % 4294967296) a b)).length = k := by simp; omega
  rw [hl, Nat.sub_self, List.drop_eq_getElem_cons hk, List.set_cons_zero]
  rw [List.take_succ_eq_append_getElem (by simp; omega), List.append_assoc]
  congr 1
  simp [List.getD_eq_getElem?_getD, hk, h ▸ hk]
theorem addP_full (a b : List Nat) (h : a.length = b.length) : addP a b a.length = List.zipWith (fun x y => (x + y) % 4294967296) a b := by
  unfold addP
  rw [List.take_of_length_le (by simp; omega), List.drop_of_length_le (Nat.le_refl _)]; simp
/-- all but one block -/
def Save (B m : Nat) (w w' : World) : Prop := Below B w w' ∧ ∀ k, k < w.heap.size → k ≠ m → w'.heap[k]? = w.heap[k]?
theorem Save.refl (B m : Nat) (w : World) : Save B m w w := ⟨Below.refl _ _, fun _ _ _ => rfl⟩
theorem Save.trans {B m : Nat} {a b c : World} (h : Save B m a b) (k : Save B m b c) : Save B m a c :=
  ⟨h.1.trans k.1, fun i hi hne => (k.2 i (Nat.lt_of_lt_of_le hi h.1.size) hne).trans (h.2 i hi hne)⟩
theorem Save.of_below {B m : Nat} {a b : World} (h : Below a.heap.size a b) (hB : B ≤ a.heap.size) : Save B m a b := ⟨h.mono hB, fun k hk _ => h.block k hk⟩
theorem Save.setCell {B m : Nat} {a b : World} (h : Save B m a b) (hB : B ≤ m) (o : Nat) (v : Value) : Save B m a (b.setCell ⟨m, o, none⟩ v) :=
  ⟨h.1.setCell hB _, fun k hk hne => (Below.heap_setCell _ _ _ _ (by simpa using hne)).trans (h.2 k hk hne)⟩
theorem Save.drew {B m : Nat} {a b : World} (h : Save B m a b) : Save B m a b.drew := ⟨h.1.drew, h.2⟩
theorem Save.mono {B B' m : Nat} {a b : World} (h : Save B m a b) (hB : B' ≤ B) : Save B' m a b := ⟨h.1.mono hB, h.2⟩
/-- a state as a list -/
def Sha.St.list (s : St) : List Nat := [s.a, s.b, s.c, s.d, s.e, s.f, s.g, s.h]
theorem list_add (s t : St) : (s.add t).list = List.zipWith (fun x y => (x + y) % 4294967296) s.list t.list := rfl
theorem hash_s (t : Nat) (s : List Nat) (r : Value) (n : Int) (w : World) (h : Nat) (hh : w.heap[h]? = some (.cells (hashA t s r n) 102 (0, 0))) : w.rangeAt h 1 (wA s).toList := by
  intro j v hv
  have hj : j < s.length := by
    have := (List.getElem?_eq_some_iff.1 hv).1
    simpa [wA] using this
  rw [cells_at hh (1 + j), hash_word t s r n j hj]
  rw [Array.getElem?_toList, wA_get _ j hj] at hv
  exact hv
theorem eight100 : (Try.prog.info? 100).map (·.size) = some 8 := by kernel_rfl
theorem stepsN_next (s : St) (w : List Nat) (t : Nat) : stepsN s w (t + 1) = (stepsN s w t).step (KT.getD t 0) (w.getD t 0) := rfl
def St.ok (s : St) : Prop := ∀ x ∈ s.list, x < 4294967296
theorem step_ok {s : St} (h : St.ok s) (k w : Nat) : St.ok (s.step k w) := by
  intro x hx
  simp only [St.ok, St.list, List.mem_cons, List.not_mem_nil, or_false, forall_eq_or_imp, forall_eq] at h
  simp only [St.step, St.list, List.mem_cons, List.not_mem_nil, or_false] at hx
  omega
theorem steps_ok {s : St} (h : St.ok s) (w : List Nat) : ∀ t, St.ok (stepsN s w t)
  | 0 => h
  | t + 1 => step_ok (steps_ok h w t) _ _
theorem add_ok (s t : St) : St.ok (s.add t) := by
  intro x hx
  simp only [St.add, St.list, List.mem_cons, List.not_mem_nil, or_false] at hx
  omega
theorem block_ok (s : St) (b : List Nat) : St.ok (blockN s b) := add_ok _ _
theorem KT_lt : ∀ k, k < 64 → KT.getD k 0 < 4294967296 := by decide
theorem gr0_lt (x : Nat) (h : x < 4294967296) : gr0 x < 4294967296 := xor32 (xor32 (rotr_lt _ _ h) (rotr_lt _ _ h)) (rotr_lt _ _ h)
theorem gr1_lt (x : Nat) (h : x < 4294967296) : gr1 x < 4294967296 := xor32 (xor32 (rotr_lt _ _ h) (rotr_lt _ _ h)) (rotr_lt _ _ h)
theorem not32 (x : Nat) (h : x < 4294967296) : 4294967295 - x = inv x := by
  unfold inv
  apply Nat.eq_of_testBit_eq
  intro i
  have h1 : (2 ^ 32 - (x + 1)).testBit i = (decide (i < 32) && !x.testBit i) := Nat.testBit_two_pow_sub_succ h i
  have h2 : (4294967295 - x).testBit i = (decide (i < 32) && !x.testBit i) := by
    rw [show 4294967295 - x = 2 ^ 32 - (x + 1) by omega]; exact h1
  rw [h2, Nat.testBit_xor, show (4294967295 : Nat) = 2 ^ 32 - 1 from rfl, Nat.testBit_two_pow_sub_one]
  by_cases hi : i < 32
  · simp [hi]
  · have hg0 : x.testBit i = false := Nat.testBit_lt_two_pow (Nat.lt_of_lt_of_le h (Nat.pow_le_pow_right (show 0 < 2 by decide) (show 32 ≤ i by omega)))
    simp [hi, hg0]
set_option maxRecDepth 100000 in
set_option maxHeartbeats 8000000 in
theorem block_c (hq t : Nat) (s : St) (hs : St.ok s) (r : Value) (n : Int) (g o cap : Nat) (hcap : 64 ≤ cap) (b : List Nat) (hl : b.length = 64) (hb : ∀ x ∈ b, x < 256) (w : World) (hg : g < w.heap.size) (hc : ∀ j, j < 64 → w.cell? ⟨g, o + j, none⟩ = some (.int .u8 ((b.getD j 0 : Nat) : Int)))
    (hh : w.heap[hq]? = some (.cells (hashA t s.list r n) 102 (0, 0))) (hT : w.heap[t]? = some (.cells (wA (KT ++ HL)) 80 (0, 0))) :
    Calls Try.prog 57 #[.pointer (some ⟨hq, 0, none⟩), .slice (some ⟨g, o, none⟩) 64 cap] w fun e w' => e = .returned undef ∧ w'.heap[hq]? = some (.cells (hashA t (blockN s b).list r n) 102 (0, 0)) ∧ Save hq hq w w' := by
  have HSC := Lib.hid (schedule_c g o cap hcap b hl hb w hg hc)
  have HWL := Lib.hid (schedW_lt b hb 64)
  obtain ⟨W, hW⟩ : ∃ W, W = schedW b 64 := ⟨_, rfl⟩
  have HWlen : Hid (W.length = 64) := by show _ = _; rw [hW, schedW_len]
  have HW := Lib.hid hW
  rw [← hW] at HSC HWL
  have HH := Lib.hid hh
  have HTT := Lib.hid hT
  have HOK := Lib.hid hs
  clear hcap hl hb hg hc hh hT hs hW
  go_enter Try.func57, Try.ntmps57
  go_wp2_with fail
  refine HSC.out.mono ?_
  rintro e w1 ⟨rfl, hb1⟩
  have HH1 : Hid (w1.heap[hq]? = some (.cells (hashA t s.list r n) 102 (0, 0))) := (hb1.block _ (lt_of_block HH.out)).trans HH.out
  have HB1 := Lib.hid hb1
  clear hb1
  have hz : ∀ o1 : Obj, ∃ Z, o1 = .cells Z 104 → True := fun _ => ⟨#[], fun _ => trivial⟩
  have hwa1 := wA_one W
  have hwa2 := wA_one s.list
  have hsz : (wA W).size = 64 := by rw [wA_size]; exact HWlen.out
  have HSZ := Lib.hid hsz
  clear hz hsz
  go_wp2_with (first
    | (refine wpList_store_row rfl 104 (.tmp 4) (.tmp 13) rfl w1.heap.size (wA W) rfl rfl 104 _ (heap_new' _ _) (by rw [w64, HSZ.out]) (by rw [HSZ.out]; rfl) hwa1 ?_; generalize hW5 : World.setRow _ _ _ = W5; have HW5 : Hid (W5.heap[w1.heap.size]? = some (.cells (wA W) 104 (0, 0))) := (by rw [← hW5]; exact setRow_heap _ _ _ _ _ _ (heap_new' _ _)); have HB5 : Hid (Below w1.heap.size w1 W5) := (by rw [← hW5]; exact below_setRow ((Below.refl _ _).alloc (Nat.le_refl _) _) (Nat.le_refl _) _); clear hW5; have HR5 := Lib.hid (hash_s t s.list r n _ hq ((HB5.out.block _ (lt_of_block HH1.out)).trans HH1.out)))
    | (refine wpList_load_mid rfl 100 (.tmp 16) rfl hq 1 rfl _ _ HR5.out Try.underlying100 rfl (by rw [eight100]; rfl) ?_)
    | (refine wpList_store_row rfl 100 (.tmp 5) (.tmp 17) rfl W5.heap.size (wA s.list) rfl rfl 100 _ (heap_new' _ _) (by rw [eight100]; rfl) (by rfl) hwa2 ?_; generalize hW6 : World.setRow _ _ _ = W6; have HS6 : Hid (W6.heap[W5.heap.size]? = some (.cells (wA s.list) 100 (0, 0))) := (by rw [← hW6]; exact setRow_heap _ _ _ _ _ _ (heap_new' _ _)); have HB6 : Hid (Below W5.heap.size W5 W6) := (by rw [← hW6]; exact below_setRow ((Below.refl _ _).alloc (Nat.le_refl _) _) (Nat.le_refl _) _); clear hW6)
    | fail)
  have HLT : Hid (w.heap.size ≤ w1.heap.size ∧ w1.heap.size < W5.heap.size) := ⟨HB1.out.size, lt_of_block HW5.out⟩
  have HB7 : Hid (Below w.heap.size w W6) := (HB1.out.trans (HB5.out.mono HB1.out.size)).trans (HB6.out.mono (Nat.le_trans HB1.out.size HB5.out.size))
  have HW6 : Hid (W6.heap[w1.heap.size]? = some (.cells (wA W) 104 (0, 0))) := (HB6.out.block _ (lt_of_block HW5.out)).trans HW5.out
  clear HB6 HR5 HB5 HW5 HB1 HH1
  generalize w1.heap.size = wb at *
  generalize W5.heap.size = sb at *
  go_loopw [18] (fun vi wr => ∃ k : Nat, k ≤ 64 ∧ vi = .int .i64 (k : Int) ∧ Hid (wr.heap[sb]? = some (.cells (wA (stepsN s W k).list) 100 (0, 0))) ∧ Hid (wr.heap[wb]? = some (.cells (wA W) 104 (0, 0))) ∧ Hid (Below w.heap.size w wr)) (fun vi _ => 64 - (intOf vi).toNat)
  case atStart => exact ⟨0, by omega, rfl, HS6.out, HW6.out, HB7.out⟩
  case round =>
    clear HS6 HW6 HB7
    obtain ⟨k, hk, rfl, hsk, hwk, hbel⟩ := hrel
    by_cases hlt : k < 64
    · have hd : decide ((k : Int) < 64) = true := by simp; omega
      have dl : (k : Int) < 64 := by omega
      have d0 : ¬ (k : Int) < 0 := by omega
      have HK := Lib.hid hlt
      have HST := Lib.hid (steps_ok HOK.out W k)
      have HNX := Lib.hid (stepsN_next s W k)
      obtain ⟨S, hS⟩ : ∃ S, S = stepsN s W k := ⟨_, rfl⟩
      rw [← hS] at hsk HST HNX
      obtain ⟨xa, xb, xc, xd, xe, xf, xg, xh⟩ := S
      have hst := HST.out
      simp only [St.ok, St.list, List.mem_cons, List.not_mem_nil, or_false, forall_eq_or_imp, forall_eq] at hst
      obtain ⟨la, lb, lc, ld, le, lf, lg, lh⟩ := hst
      have c0 : wr.cell? ⟨sb, 0, none⟩ = some (.int .u32 (xa : Int)) := (cells_at hsk.out 0).trans rfl
      have c1 : wr.cell? ⟨sb, 1, none⟩ = some (.int .u32 (xb : Int)) := (cells_at hsk.out 1).trans rfl
      have c2 : wr.cell? ⟨sb, 2, none⟩ = some (.int .u32 (xc : Int)) := (cells_at hsk.out 2).trans rfl
      have c3 : wr.cell? ⟨sb, 3, none⟩ = some (.int .u32 (xd : Int)) := (cells_at hsk.out 3).trans rfl
      have c4 : wr.cell? ⟨sb, 4, none⟩ = some (.int .u32 (xe : Int)) := (cells_at hsk.out 4).trans rfl
      have c5 : wr.cell? ⟨sb, 5, none⟩ = some (.int .u32 (xf : Int)) := (cells_at hsk.out 5).trans rfl
      have c6 : wr.cell? ⟨sb, 6, none⟩ = some (.int .u32 (xg : Int)) := (cells_at hsk.out 6).trans rfl
      have c7 : wr.cell? ⟨sb, 7, none⟩ = some (.int .u32 (xh : Int)) := (cells_at hsk.out 7).trans rfl
      have ch0 : wr.cell? ⟨hq, 0, none⟩ = some (.pointer (some ⟨t, 0, none⟩)) := (cells_at ((hbel.out.block _ (lt_of_block HH.out)).trans HH.out) 0).trans rfl
      have ct : wr.cell? ⟨t, k, none⟩ = some (.int .u32 ((KT.getD k 0 : Nat) : Int)) := by
        rw [cells_at ((hbel.out.block _ (lt_of_block HTT.out)).trans HTT.out) k, wA_get _ k (by rw [List.length_append, KT_len]; omega), List.getD_eq_getElem?_getD, List.getElem?_append_left (by rw [KT_len]; exact hlt), ← List.getD_eq_getElem?_getD]
      have cw : wr.cell? ⟨wb, k, none⟩ = some (.int .u32 ((W.getD k 0 : Nat) : Int)) := (cells_at hwk.out k).trans (wA_get _ k (by rw [HWlen.out]; exact hlt))
      have hkl := KT_lt k hlt
      have hwl := getD_w HWL.out k
      obtain ⟨xk, hxk⟩ : ∃ x, x = KT.getD k 0 := ⟨_, rfl⟩
      obtain ⟨xw, hxw⟩ : ∃ x, x = W.getD k 0 := ⟨_, rfl⟩
      rw [← hxk] at ct hkl HNX
      rw [← hxw] at cw hwl HNX
      have HG1 : Hid (∀ w, Calls Try.prog 61 #[.int .u32 (xe : Int)] w fun e w' => e = .returned (.int .u32 ((gr1 xe : Nat) : Int)) ∧ w' = w) := fun w => (great1_c xe le w).mono fun e w' h => ⟨h.1, h.2.symm⟩
      have HG0 : Hid (∀ w, Calls Try.prog 62 #[.int .u32 (xa : Int)] w fun e w' => e = .returned (.int .u32 ((gr0 xa : Nat) : Int)) ∧ w' = w) := fun w => (great0_c xa la w).mono fun e w' h => ⟨h.1, h.2.symm⟩
      have b1 : xe &&& xf < 4294967296 := Nat.and_lt_two_pow (n := 32) _ lf
      have b2 : inv xe < 4294967296 := xor32 le (by decide)
      have b3 : inv xe &&& xg < 4294967296 := Nat.and_lt_two_pow (n := 32) _ lg
      have b4 : xa &&& xb < 4294967296 := Nat.and_lt_two_pow (n := 32) _ lb
      have b5 : xa &&& xc < 4294967296 := Nat.and_lt_two_pow (n := 32) _ lc
      have b6 : xb &&& xc < 4294967296 := Nat.and_lt_two_pow (n := 32) _ lc
      have n1 : bits BinOp.and IntKind.u32 (xe : Int) (xf : Int) = ((xe &&& xf : Nat) : Int) := u32n rfl rfl le lf
      have n2 : bits BinOp.xor IntKind.u32 IntKind.u32.max (xe : Int) = ((inv xe : Nat) : Int) := by
        exact (u32x (x := IntKind.u32.max) (a := 4294967295) (b := xe) rfl rfl (by decide) le).trans (by rw [Nat.xor_comm]; rfl)
      have n3 : bits BinOp.and IntKind.u32 ((inv xe : Nat) : Int) (xg : Int) = ((inv xe &&& xg : Nat) : Int) := u32n rfl rfl b2 lg
      have n4 : bits BinOp.xor IntKind.u32 ((xe &&& xf : Nat) : Int) ((inv xe &&& xg : Nat) : Int) = ((ch xe xf xg : Nat) : Int) := u32x rfl rfl b1 b3
      have n5 : bits BinOp.and IntKind.u32 (xa : Int) (xb : Int) = ((xa &&& xb : Nat) : Int) := u32n rfl rfl la lb
      have n6 : bits BinOp.and IntKind.u32 (xa : Int) (xc : Int) = ((xa &&& xc : Nat) : Int) := u32n rfl rfl la lc
      have n7 : bits BinOp.and IntKind.u32 (xb : Int) (xc : Int) = ((xb &&& xc : Nat) : Int) := u32n rfl rfl lb lc
      have n8 : bits BinOp.xor IntKind.u32 ((xa &&& xb : Nat) : Int) ((xa &&& xc : Nat) : Int) = (((xa &&& xb) ^^^ (xa &&& xc) : Nat) : Int) := u32x rfl rfl b4 b5
      have n9 : bits BinOp.xor IntKind.u32 (((xa &&& xb) ^^^ (xa &&& xc) : Nat) : Int) ((xb &&& xc : Nat) : Int) = ((maj xa xb xc : Nat) : Int) := u32x rfl rfl (xor32 b4 b5) b6
      simp only [St.step] at HNX
      clear b1 b2 b3 b4 b5 b6
      obtain ⟨v9, hv9⟩ : ∃ v, v = maj xa xb xc := ⟨_, rfl⟩
      rw [← hv9] at n9 HNX
      obtain ⟨v8, hv8⟩ : ∃ v, v = ((xa &&& xb) ^^^ (xa &&& xc) : Nat) := ⟨_, rfl⟩
      rw [← hv8] at n8 n9
      obtain ⟨v7, hv7⟩ : ∃ v, v = xb &&& xc := ⟨_, rfl⟩
      rw [← hv7] at n7 n9
      obtain ⟨v6, hv6⟩ : ∃ v, v = xa &&& xc := ⟨_, rfl⟩
      rw [← hv6] at n6 n8
      obtain ⟨v5, hv5⟩ : ∃ v, v = xa &&& xb := ⟨_, rfl⟩
      rw [← hv5] at n5 n8
      obtain ⟨v4, hv4⟩ : ∃ v, v = ch xe xf xg := ⟨_, rfl⟩
      rw [← hv4] at n4 HNX
      obtain ⟨v3, hv3⟩ : ∃ v, v = inv xe &&& xg := ⟨_, rfl⟩
      rw [← hv3] at n3 n4
      obtain ⟨v2, hv2⟩ : ∃ v, v = inv xe := ⟨_, rfl⟩
      rw [← hv2] at n2 n3
      obtain ⟨v1, hv1⟩ : ∃ v, v = xe &&& xf := ⟨_, rfl⟩
      rw [← hv1] at n1 n4
      obtain ⟨g1, hg1⟩ : ∃ v, v = gr1 xe := ⟨_, rfl⟩
      rw [← hg1] at HG1 HNX
      obtain ⟨g0, hg0⟩ : ∃ v, v = gr0 xa := ⟨_, rfl⟩
      rw [← hg0] at HG0 HNX
      obtain ⟨a1, ha1⟩ : ∃ a, a = (xh + g1) % 4294967296 := ⟨_, rfl⟩
      have q1 : IntKind.u32.wrap ((xh : Int) + (g1 : Int)) = (a1 : Int) := by rw [IntKind.wrap_u32]; omega
      obtain ⟨a2, ha2⟩ : ∃ a, a = (a1 + v4) % 4294967296 := ⟨_, rfl⟩
      have q2 : IntKind.u32.wrap ((a1 : Int) + (v4 : Int)) = (a2 : Int) := by rw [IntKind.wrap_u32]; omega
      obtain ⟨a3, ha3⟩ : ∃ a, a = (a2 + xk) % 4294967296 := ⟨_, rfl⟩
      have q3 : IntKind.u32.wrap ((a2 : Int) + (xk : Int)) = (a3 : Int) := by rw [IntKind.wrap_u32]; omega
      obtain ⟨t1, ht1⟩ : ∃ a, a = (a3 + xw) % 4294967296 := ⟨_, rfl⟩
      have q4 : IntKind.u32.wrap ((a3 : Int) + (xw : Int)) = (t1 : Int) := by rw [IntKind.wrap_u32]; omega
      obtain ⟨t2, ht2⟩ : ∃ a, a = (g0 + v9) % 4294967296 := ⟨_, rfl⟩
      have q5 : IntKind.u32.wrap ((g0 : Int) + (v9 : Int)) = (t2 : Int) := by rw [IntKind.wrap_u32]; omega
      obtain ⟨a5, ha5⟩ : ∃ a, a = (t1 + t2) % 4294967296 := ⟨_, rfl⟩
      have q6 : IntKind.u32.wrap ((t1 : Int) + (t2 : Int)) = (a5 : Int) := by rw [IntKind.wrap_u32]; omega
      obtain ⟨a6, ha6⟩ : ∃ a, a = (xd + t1) % 4294967296 := ⟨_, rfl⟩
      have q7 : IntKind.u32.wrap ((xd : Int) + (t1 : Int)) = (a6 : Int) := by rw [IntKind.wrap_u32]; omega
      have hnx := HNX.out
      rw [show (xh + g1 + v4 + xk + xw) % 4294967296 = t1 by omega, ← ht2, ← ha5, ← ha6] at hnx
      have HN : Hid (wA (stepsN s W (k + 1)).list = #[.int .u32 (a5 : Int), .int .u32 (xa : Int), .int .u32 (xb : Int), .int .u32 (xc : Int), .int .u32 (a6 : Int), .int .u32 (xe : Int), .int .u32 (xf : Int), .int .u32 (xg : Int)]) := by show _ = _; rw [hnx]; rfl
      clear hxk hxw hS hnx HNX ha1 ha2 ha3 ht1 ht2 ha5 ha6 hg1 hg0 hv9 hv8 hv7 hv6 hv5 hv4 hv3 hv2 hv1 la lb lc ld le lf lg lh hkl hwl HST hk
      go_wp2
      refine wp_region_still_tail 22 (by kernel_rfl) (by kernel_rfl) ?_
      simp only [List.take_succ_cons, List.take_zero, List.drop_succ_cons, List.drop_zero]
      change wpStill _ _ wr.drew _ _ _
      repeat still_step
      still_call (HG1.out _)
      repeat still_step
      refine wpStill_nil ?_
      change wpList _ _ _ _ _ wr.drew
      go_wp2_with fail
      refine (HG0.out _).mono ?_
      rintro r1 w1' ⟨rfl, rfl⟩
      have hsd : wr.drew.heap[sb]? = some (.cells (wA [xa, xb, xc, xd, xe, xf, xg, xh]) 100 (0, 0)) := hsk.out
      have HSD := Lib.hid hsd
      clear hsd
      go_wp2_with (first
        | (refine wpList_store_row rfl 100 (.tmp 5) (.tmp 96) rfl sb #[.int .u32 (a5 : Int), .int .u32 (xa : Int), .int .u32 (xb : Int), .int .u32 (xc : Int), .int .u32 (a6 : Int), .int .u32 (xe : Int), .int .u32 (xf : Int), .int .u32 (xg : Int)] rfl rfl 100 _ HSD.out (by rw [eight100]; rfl) (by rfl) (by simp [Value.oneCell']) ?_)
        | fail)
      go_roundw
      case rel => exact ⟨k + 1, by have := HK.out; omega, by go_num, by rw [HN.out]; exact setRow_heap _ _ _ _ _ _ HSD.out, (setRow_other _ _ _ _ (by have := HLT.out; omega)).trans hwk.out, below_setRow hbel.out.drew (by have := HLT.out; omega) _⟩
      case measure => simp [intOf]; have := HK.out; omega
    · have hk64 : k = 64 := by omega
      have hd : decide ((k : Int) < 64) = false := by simp; omega
      have HF : Hid (blockN s b = s.add (stepsN s W k)) := by show _ = _; rw [HW.out, hk64]; rfl
      obtain ⟨S, hS⟩ : ∃ S, S = stepsN s W k := ⟨_, rfl⟩
      rw [← hS] at hsk HF
      have HSS := Lib.hid hsk.out
      have HHR : Hid (wr.heap[hq]? = some (.cells (hashA t (addP s.list S.list 0) r n) 102 (0, 0))) := by
        rw [addP_zero]; exact (hbel.out.block _ (lt_of_block HH.out)).trans HH.out
      have HB := Lib.hid hbel.out
      have HNE : Hid (sb ≠ hq) := by have h1 := HLT.out; have h2 := lt_of_block HH.out; show _ ≠ _; omega
      have HSV : Hid (Save hq hq w wr) := ⟨hbel.out.mono (Nat.le_of_lt (lt_of_block HH.out)), fun k hk _ => hbel.out.block k hk⟩
      clear hS hsk hwk hbel hk hlt hk64
      go_wp2
      go_loopw [98] (fun vi wx => ∃ k : Nat, k ≤ 8 ∧ vi = .int .i64 (k : Int) ∧ Hid (wx.heap[hq]? = some (.cells (hashA t (addP s.list S.list k) r n) 102 (0, 0))) ∧ Hid (wx.heap[sb]? = some (.cells (wA S.list) 100 (0, 0))) ∧ Hid (Save hq hq w wx)) (fun vi _ => 8 - (intOf vi).toNat)
      case atStart => exact ⟨0, by omega, rfl, HHR.out, HSS.out, HSV.out⟩
      case round =>
        clear HHR HSS HSV HB
        obtain ⟨k, hk, rfl, hhk, hsk, hsv⟩ := hrel
        have hl8 : s.list.length = S.list.length := rfl
        by_cases hlt : k < 8
        · have hd8 : decide ((k : Int) < 8) = true := by simp; omega
          have dl8 : (k : Int) < 8 := by omega
          have d0 : ¬ (k : Int) < 0 := by omega
          have HK := Lib.hid hlt
          have hal : (addP s.list S.list k).length = 8 := addP_len _ _ _ hl8 hk
          have f0 := free_at hhk.out (1 + k)
          have c0 := (cells_at hhk.out (1 + k)).trans (hash_word t _ r n k (by rw [hal]; exact hlt))
          rw [addP_get _ _ _ hl8 hlt] at c0
          have c1 := (cells_at hsk.out k).trans (wA_get _ k hlt)
          have hset := addP_set s.list S.list k hl8 hlt
          obtain ⟨x, hx⟩ : ∃ x, x = s.list.getD k 0 := ⟨_, rfl⟩
          obtain ⟨y, hy⟩ : ∃ x, x = S.list.getD k 0 := ⟨_, rfl⟩
          rw [← hx] at c0 hset
          rw [← hy] at c1 hset
          obtain ⟨z, hz⟩ : ∃ z, z = (x + y) % 4294967296 := ⟨_, rfl⟩
          have e1 : IntKind.u32.wrap ((x : Int) + (y : Int)) = (z : Int) := by rw [IntKind.wrap_u32]; omega
          rw [← hz] at hset
          have nb := block_at hhk.out (1 + k) (.int .u32 (z : Int))
          rw [hash_set t _ r n k z (by rw [hal]; exact hlt), hset] at nb
          have NB := Lib.hid nb
          clear nb hz hx hy hset hal hk hlt
          go_wp2
          refine wp_region_still_tail 13 (by kernel_rfl) (by kernel_rfl) ?_
          simp only [List.take_succ_cons, List.take_zero, List.drop_succ_cons, List.drop_zero]
          change wpStill _ _ wr.drew _ _ _
          repeat still_step
          refine wpStill_nil ?_
          change wpList _ _ _ _ _ wr.drew
          go_wp2
          go_roundw
          case rel => exact ⟨k + 1, by have := HK.out; omega, by go_num, NB.out, (Below.heap_setCell _ _ _ _ (by have := HNE.out; exact this)).trans hsk.out, hsv.out.drew.setCell (Nat.le_refl _) _ _⟩
          case measure => simp [intOf]; have := HK.out; omega
        · have hk8 : k = 8 := by omega
          have hd8 : decide ((k : Int) < 8) = false := by simp; omega
          have HFIN : Hid (wr.heap[hq]? = some (.cells (hashA t (blockN s b).list r n) 102 (0, 0))) := by
            have h := hhk.out
            rw [hk8, show 8 = s.list.length from rfl, addP_full _ _ hl8, ← list_add, ← HF.out] at h
            exact h
          clear hhk hk hk8 hlt hl8
          go_wp2
          go_end0
          exact ⟨rfl, HFIN.out, hsv.out⟩
end Go.Proofs.Ythpglpnonecnfaa
