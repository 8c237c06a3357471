/- Lemmas for the proof. -/
import Derived.Test.YtnmdjggdgakeoaaGreatPXd
import Derived.Test.YtnmdjggdgakeoaaGreatPXc
import Derived.Lib.AppendZerosOnto
import Derived.Lib.Walk
import Derived.Test.YtnmdjggdgakeoaaGreatPXb
import Derived.ChangeOld
set_option maxRecDepth 100000
set_option maxHeartbeats 16000000
set_option linter.unusedVariables false
set_option linter.unusedSimpArgs false
set_option linter.unusedSectionVars false
namespace Go.Proofs.YtnmdjggdgakeoaaGreat
open Go Go.RowKit Sha
def addP (a b : List Nat) (k : Nat) : List Nat := (List.zipWith (fun x y => (x + y) % 4294967296) a b).take k ++ a.drop k
theorem addP_len (a b : List Nat) (k : Nat) (h : a.length = b.length) (hk : k <= a.length) : (addP a b k).length = a.length := by
 unfold addP; simp; omega
theorem addP_zero (a b : List Nat) : addP a b 0 = a := by simp [addP]
theorem addP_get (a b : List Nat) (k : Nat) (h : a.length = b.length) (hk : k < a.length) : (addP a b k).getD k 0 = a.getD k 0 := by
 unfold addP;rw [List.getD_eq_getElem?_getD, List.getElem?_append_right (by simp; omega)]
 simp [List.getD_eq_getElem?_getD]
 rw [Nat.min_eq_left (by omega)]; simp
theorem addP_set (a b : List Nat) (k : Nat) (h : a.length = b.length) (hk : k < a.length) : (addP a b k).set k ((a.getD k 0 + b.getD k 0) % 4294967296) = addP a b (k + 1) := by
 unfold addP;rw [List.set_append_right _ _ (by simp; omega)]
 have hl : (List.take k (List.zipWith (fun x y => (x + y) % 4294967296) a b)).length = k := by simp; omega
 rw [hl, Nat.sub_self, List.drop_eq_getElem_cons hk, List.set_cons_zero]
 rw [List.take_succ_eq_append_getElem (by simp; omega), List.append_assoc]
 congr 1
 simp [List.getD_eq_getElem?_getD, hk, h ▸ hk]
theorem addP_full (a b : List Nat) (h : a.length = b.length) : addP a b a.length = List.zipWith (fun x y => (x + y) % 4294967296) a b := by
 unfold addP;rw [List.take_of_length_le (by simp; omega), List.drop_of_length_le (Nat.le_refl _)]; simp
def Save (B m : Nat) (w w' : World) : Prop := Below B w w' /\ ∀ k, k < w.heap.size -> k ≠ m -> w'.heap[k]? = w.heap[k]?
theorem Save.refl (B m : Nat) (w : World) : Save B m w w := ⟨Below.refl _ _, fun _ _ _ => rfl⟩
theorem Save.trans {B m : Nat} {a b c : World} (h : Save B m a b) (k : Save B m b c) : Save B m a c :=
 ⟨h.1.trans k.1, fun i hi hne => (k.2 i (Nat.lt_of_lt_of_le hi h.1.size) hne).trans (h.2 i hi hne)⟩
theorem Save.of_below {B m : Nat} {a b : World} (h : Below a.heap.size a b) (hB : B <= a.heap.size) : Save B m a b := ⟨h.mono hB, fun k hk _ => h.block k hk⟩
theorem Save.setCell {B m : Nat} {a b : World} (h : Save B m a b) (hB : B <= m) (o : Nat) (v : Value) : Save B m a (b.setCell ⟨m, o, none⟩ v) :=
 ⟨h.1.setCell hB _, fun k hk hne => (Below.heap_setCell _ _ _ _ (by simpa using hne)).trans (h.2 k hk hne)⟩
theorem Save.drew {B m : Nat} {a b : World} (h : Save B m a b) : Save B m a b.drew := ⟨h.1.drew, h.2⟩
theorem Save.mono {B B' m : Nat} {a b : World} (h : Save B m a b) (hB : B' <= B) : Save B' m a b := ⟨h.1.mono hB, h.2⟩
def Sha.St.list (s : St) : List Nat := [s.a, s.b, s.c, s.d, s.e, s.f, s.g, s.h]
theorem list_add (s t : St) : (s.add t).list = List.zipWith (fun x y => (x + y) % 4294967296) s.list t.list := rfl
theorem hash_s (t : Nat) (s : List Nat) (r : Value) (n : Int) (w : World) (h : Nat) (hh : w.heap[h]? = some (.cells (hashA t s r n) 100 (0, 0))) : w.rangeAt h 1 (wA s).toList := by
 intro j v hv;have hj : j < s.length := by
  have := (List.getElem?_eq_some_iff.1 hv).1
  simpa [wA] using this
 rw [cells_at hh (1 + j), hash_word t s r n j hj]
 rw [Array.getElem?_toList, wA_get _ j hj] at hv
 exact hv
theorem eight100 : (Tryz.prog.info? 98).map (·.size) = some 8 := by kernel_rfl
theorem stepsN_next (s : St) (w : List Nat) (t : Nat) : stepsN s w (t + 1) = (stepsN s w t).step (KT.getD t 0) (w.getD t 0) := rfl
def St.ok (s : St) : Prop := ∀ x ∈ s.list, x < 4294967296
theorem step_ok {s : St} (h : St.ok s) (k w : Nat) : St.ok (s.step k w) := by
 intro x hx;simp only [St.ok, St.list, List.mem_cons, List.not_mem_nil, or_false, forall_eq_or_imp, forall_eq] at h
 simp only [St.step, St.list, List.mem_cons, List.not_mem_nil, or_false] at hx
 omega
theorem steps_ok {s : St} (h : St.ok s) (w : List Nat) : ∀ t, St.ok (stepsN s w t)
 | 0 => h
 | t + 1 => step_ok (steps_ok h w t) _ _
theorem add_ok (s t : St) : St.ok (s.add t) := by
 intro x hx;simp only [St.add, St.list, List.mem_cons, List.not_mem_nil, or_false] at hx
 omega
theorem block_ok (s : St) (b : List Nat) : St.ok (blockN s b) := add_ok _ _
theorem KT_lt : ∀ k, k < 64 -> KT.getD k 0 < 4294967296 := by decide
theorem block_c (hq t : Nat) (s : St) (hs : St.ok s) (r : Value) (n : Int) (g o cap : Nat) (hcap : 64 <= cap) (b : List Nat) (hl : b.length = 64) (hb : ∀ x ∈ b, x < 256) (w : World) (hg : g < w.heap.size) (hc : ∀ j, j < 64 -> w.cell? ⟨g, o + j, none⟩ = some (.int .u8 ((b.getD j 0 : Nat) : Int)))
  (hh : w.heap[hq]? = some (.cells (hashA t s.list r n) 100 (0, 0))) (hT : w.heap[t]? = some (.cells (wA (KT ++ HL)) 64 (0, 0))) :
  Calls Tryz.prog 38 #[.pointer (some ⟨hq, 0, none⟩), .slice (some ⟨g, o, none⟩) 64 cap] w fun e w' => e = .returned undef /\ w'.heap[hq]? = some (.cells (hashA t (blockN s b).list r n) 100 (0, 0)) /\ Save hq hq w w' := by
 have HSC := Lib.hid (schedule_c g o cap hcap b hl hb w hg hc)
 have HWL := Lib.hid (schedW_lt b hb 64)
 obtain ⟨W, hW⟩ : ∃ W, W = schedW b 64 := ⟨_, rfl⟩
 have HWlen : Hid (W.length = 64) := by show _ = _; rw [hW, schedW_len]
 have HW := Lib.hid hW;rw [<- hW] at HSC HWL;have HH := Lib.hid hh;have HTT := Lib.hid hT;have HOK := Lib.hid hs;clear hcap hl hb hg hc hh hT hs hW
 go_enter Tryz.func38, Tryz.ntmps38
 go_wp2_with fail
 refine HSC.out.mono ?_
 rintro e w1 ⟨rfl, hb1⟩
 have HH1 : Hid (w1.heap[hq]? = some (.cells (hashA t s.list r n) 100 (0, 0))) := (hb1.block _ (lt_of_block HH.out)).trans HH.out
 have HB1 := Lib.hid hb1;clear hb1;have hz : ∀ o1 : Obj, ∃ Z, o1 = .cells Z 135 -> True := fun _ => ⟨#[], fun _ => trivial⟩
 have hwa1 := wA_one W
 have hwa2 := wA_one s.list
 have hsz : (wA W).size = 64 := by rw [wA_size]; exact HWlen.out
 have HSZ := Lib.hid hsz;clear hz hsz;go_wp2_with (first
  | (refine wpList_store_row rfl 135 (.tmp 4) (.tmp 13) rfl w1.heap.size (wA W) rfl rfl 135 _ (heap_new' _ _) (by rw [w64, HSZ.out]) (by rw [HSZ.out]; rfl) hwa1 ?_; generalize hW5 : World.setRow _ _ _ = W5; have HW5 : Hid (W5.heap[w1.heap.size]? = some (.cells (wA W) 135 (0, 0))) := (by rw [<- hW5]; exact setRow_heap _ _ _ _ _ _ (heap_new' _ _)); have HB5 : Hid (Below w1.heap.size w1 W5) := (by rw [<- hW5]; exact below_setRow ((Below.refl _ _).alloc (Nat.le_refl _) _) (Nat.le_refl _) _); clear hW5; have HR5 := Lib.hid (hash_s t s.list r n _ hq ((HB5.out.block _ (lt_of_block HH1.out)).trans HH1.out)))
  | (refine wpList_load_mid rfl 98 (.tmp 16) rfl hq 1 rfl _ _ HR5.out Tryz.underlying98 rfl (by rw [eight100]; rfl) ?_)
  | (refine wpList_store_row rfl 98 (.tmp 5) (.tmp 17) rfl W5.heap.size (wA s.list) rfl rfl 98 _ (heap_new' _ _) (by rw [eight100]; rfl) (by rfl) hwa2 ?_; generalize hW6 : World.setRow _ _ _ = W6; have HS6 : Hid (W6.heap[W5.heap.size]? = some (.cells (wA s.list) 98 (0, 0))) := (by rw [<- hW6]; exact setRow_heap _ _ _ _ _ _ (heap_new' _ _)); have HB6 : Hid (Below W5.heap.size W5 W6) := (by rw [<- hW6]; exact below_setRow ((Below.refl _ _).alloc (Nat.le_refl _) _) (Nat.le_refl _) _); clear hW6)
  | fail)
 have HLT : Hid (w.heap.size <= w1.heap.size /\ w1.heap.size < W5.heap.size) := ⟨HB1.out.size, lt_of_block HW5.out⟩
 have HB7 : Hid (Below w.heap.size w W6) := (HB1.out.trans (HB5.out.mono HB1.out.size)).trans (HB6.out.mono (Nat.le_trans HB1.out.size HB5.out.size))
 have HW6 : Hid (W6.heap[w1.heap.size]? = some (.cells (wA W) 135 (0, 0))) := (HB6.out.block _ (lt_of_block HW5.out)).trans HW5.out
 clear HB6 HR5 HB5 HW5 HB1 HH1;generalize w1.heap.size = wb at *
 generalize W5.heap.size = sb at *
 go_loopw [18] (fun vi wr => ∃ k : Nat, k <= 64 /\ vi = .int .i64 (k : Int) /\ Hid (wr.heap[sb]? = some (.cells (wA (stepsN s W k).list) 98 (0, 0))) /\ Hid (wr.heap[wb]? = some (.cells (wA W) 135 (0, 0))) /\ Hid (Below w.heap.size w wr)) (fun vi _ => 64 - (intOf vi).toNat)
 case atStart => exact ⟨0, by omega, rfl, HS6.out, HW6.out, HB7.out⟩
 case round =>
  clear HS6 HW6 HB7;obtain ⟨k, hk, rfl, hsk, hwk, hbel⟩ := hrel
  by_cases hlt : k < 64
  ·have hd : decide ((k : Int) < 64) = true := by simp; omega
   have dl : (k : Int) < 64 := by omega
   have d0 : ¬ (k : Int) < 0 := by omega
   have HK := Lib.hid hlt;have HST := Lib.hid (steps_ok HOK.out W k)
   have HNX := Lib.hid (stepsN_next s W k)
   obtain ⟨S, hS⟩ : ∃ S, S = stepsN s W k := ⟨_, rfl⟩
   rw [<- hS] at hsk HST HNX;obtain ⟨xa, xb, xc, xd, xe, xf, xg, xh⟩ := S
   have hst := HST.out
   simp only [St.ok, St.list, List.mem_cons, List.not_mem_nil, or_false, forall_eq_or_imp, forall_eq] at hst
   obtain ⟨la, lb, lc, ld, le, lf, lg, lh⟩ := hst
   have c0 : wr.cell? ⟨sb, 0, none⟩ = some (.int .u32 (xa : Int)) := (cells_at hsk.out 0).trans rfl
   have c1 : wr.cell? ⟨sb, 1, none⟩ = some (.int .u32 (xb : Int)) := (cells_at hsk.out 1).trans rfl
   have c2 : wr.cell? ⟨sb, 2, none⟩ = some (.int .u32 (xc : Int)) := (cells_at hsk.out 2).trans rfl
   have c3 : wr.cell? ⟨sb, 3, none⟩ = some (.int .u32 (xd : Int)) := (cells_at hsk.out 3).trans rfl
   have c4 : wr.cell? ⟨sb, 4, none⟩ = some (.int .u32 (xe : Int)) := (cells_at hsk.out 4).trans rfl
   have c5 : wr.cell? ⟨sb, 5, none⟩ = some (.int .u32 (xf : Int)) := (cells_at hsk.out 5).trans rfl
   have c6 : wr.cell? ⟨sb, 6, none⟩ = some (.int .u32 (xg : Int)) := (cells_at hsk.out 6).trans rfl
   have c7 : wr.cell? ⟨sb, 7, none⟩ = some (.int .u32 (xh : Int)) := (cells_at hsk.out 7).trans rfl
   have ch0 : wr.cell? ⟨hq, 0, none⟩ = some (.pointer (some ⟨t, 0, none⟩)) := (cells_at ((hbel.out.block _ (lt_of_block HH.out)).trans HH.out) 0).trans rfl
   have ct : wr.cell? ⟨t, k, none⟩ = some (.int .u32 ((KT.getD k 0 : Nat) : Int)) := by
    rw [cells_at ((hbel.out.block _ (lt_of_block HTT.out)).trans HTT.out) k, wA_get _ k (by rw [List.length_append, KT_len]; omega), List.getD_eq_getElem?_getD, List.getElem?_append_left (by rw [KT_len]; exact hlt), <- List.getD_eq_getElem?_getD]
   have cw : wr.cell? ⟨wb, k, none⟩ = some (.int .u32 ((W.getD k 0 : Nat) : Int)) := (cells_at hwk.out k).trans (wA_get _ k (by rw [HWlen.out]; exact hlt))
   have hkl := KT_lt k hlt
   have hwl := getD_w HWL.out k
   obtain ⟨xk, hxk⟩ : ∃ x, x = KT.getD k 0 := ⟨_, rfl⟩
   obtain ⟨xw, hxw⟩ : ∃ x, x = W.getD k 0 := ⟨_, rfl⟩
   rw [<- hxk] at ct hkl HNX;rw [<- hxw] at cw hwl HNX;have HG1 : Hid (∀ w, Calls Tryz.prog 55 #[.int .u32 (xe : Int)] w fun e w' => e = .returned (.int .u32 ((gr1 xe : Nat) : Int)) /\ w' = w) := fun w => (great1_c xe le w).mono fun e w' h => ⟨h.1, h.2.symm⟩
   have HG0 : Hid (∀ w, Calls Tryz.prog 56 #[.int .u32 (xa : Int)] w fun e w' => e = .returned (.int .u32 ((gr0 xa : Nat) : Int)) /\ w' = w) := fun w => (great0_c xa la w).mono fun e w' h => ⟨h.1, h.2.symm⟩
   have b1 : xe &&& xf < 4294967296 := Nat.and_lt_two_pow (n := 32) _ lf
   have b2 : inv xe < 4294967296 := xor32 le (by decide)
   have b3 : inv xe &&& xg < 4294967296 := Nat.and_lt_two_pow (n := 32) _ lg
   have b4 : xa &&& xb < 4294967296 := Nat.and_lt_two_pow (n := 32) _ lb
   have b5 : xa &&& xc < 4294967296 := Nat.and_lt_two_pow (n := 32) _ lc
   have b6 : xb &&& xc < 4294967296 := Nat.and_lt_two_pow (n := 32) _ lc
   have n1 : bits BinOp.and IntKind.u32 (xe : Int) (xf : Int) = ((xe &&& xf : Nat) : Int) := u32n rfl rfl le lf
   have n2 : bits BinOp.xor IntKind.u32 IntKind.u32.max (xe : Int) = ((inv xe : Nat) : Int) := by
    exact (u32x (x := IntKind.u32.max) (a := 4294967295) (b := xe) rfl rfl (by decide) le).trans (by rw [Nat.xor_comm]; rfl)
   have n3 : bits BinOp.and IntKind.u32 ((inv xe : Nat) : Int) (xg : Int) = ((inv xe &&& xg : Nat) : Int) := u32n rfl rfl b2 lg
   have n4 : bits BinOp.xor IntKind.u32 ((xe &&& xf : Nat) : Int) ((inv xe &&& xg : Nat) : Int) = ((ch xe xf xg : Nat) : Int) := u32x rfl rfl b1 b3
   have n5 : bits BinOp.and IntKind.u32 (xa : Int) (xb : Int) = ((xa &&& xb : Nat) : Int) := u32n rfl rfl la lb
   have n6 : bits BinOp.and IntKind.u32 (xa : Int) (xc : Int) = ((xa &&& xc : Nat) : Int) := u32n rfl rfl la lc
   have n7 : bits BinOp.and IntKind.u32 (xb : Int) (xc : Int) = ((xb &&& xc : Nat) : Int) := u32n rfl rfl lb lc
   have n8 : bits BinOp.xor IntKind.u32 ((xa &&& xb : Nat) : Int) ((xa &&& xc : Nat) : Int) = (((xa &&& xb) ^^^ (xa &&& xc) : Nat) : Int) := u32x rfl rfl b4 b5
   have n9 : bits BinOp.xor IntKind.u32 (((xa &&& xb) ^^^ (xa &&& xc) : Nat) : Int) ((xb &&& xc : Nat) : Int) = ((maj xa xb xc : Nat) : Int) := u32x rfl rfl (xor32 b4 b5) b6
   simp only [St.step] at HNX
   clear b1 b2 b3 b4 b5 b6;obtain ⟨v9, hv9⟩ : ∃ v, v = maj xa xb xc := ⟨_, rfl⟩
   rw [<- hv9] at n9 HNX;obtain ⟨v8, hv8⟩ : ∃ v, v = ((xa &&& xb) ^^^ (xa &&& xc) : Nat) := ⟨_, rfl⟩
   rw [<- hv8] at n8 n9;obtain ⟨v7, hv7⟩ : ∃ v, v = xb &&& xc := ⟨_, rfl⟩
   rw [<- hv7] at n7 n9;obtain ⟨v6, hv6⟩ : ∃ v, v = xa &&& xc := ⟨_, rfl⟩
   rw [<- hv6] at n6 n8;obtain ⟨v5, hv5⟩ : ∃ v, v = xa &&& xb := ⟨_, rfl⟩
   rw [<- hv5] at n5 n8;obtain ⟨v4, hv4⟩ : ∃ v, v = ch xe xf xg := ⟨_, rfl⟩
   rw [<- hv4] at n4 HNX;obtain ⟨v3, hv3⟩ : ∃ v, v = inv xe &&& xg := ⟨_, rfl⟩
   rw [<- hv3] at n3 n4;obtain ⟨v2, hv2⟩ : ∃ v, v = inv xe := ⟨_, rfl⟩
   rw [<- hv2] at n2 n3;obtain ⟨v1, hv1⟩ : ∃ v, v = xe &&& xf := ⟨_, rfl⟩
   rw [<- hv1] at n1 n4;obtain ⟨g1, hg1⟩ : ∃ v, v = gr1 xe := ⟨_, rfl⟩
   rw [<- hg1] at HG1 HNX;obtain ⟨g0, hg0⟩ : ∃ v, v = gr0 xa := ⟨_, rfl⟩
   rw [<- hg0] at HG0 HNX;obtain ⟨a1, ha1⟩ : ∃ a, a = (xh + g1) % 4294967296 := ⟨_, rfl⟩
   have q1 : IntKind.u32.wrap ((xh : Int) + (g1 : Int)) = (a1 : Int) := by rw [IntKind.wrap_u32]; omega
   obtain ⟨a2, ha2⟩ : ∃ a, a = (a1 + v4) % 4294967296 := ⟨_, rfl⟩
   have q2 : IntKind.u32.wrap ((a1 : Int) + (v4 : Int)) = (a2 : Int) := by rw [IntKind.wrap_u32]; omega
   obtain ⟨a3, ha3⟩ : ∃ a, a = (a2 + xk) % 4294967296 := ⟨_, rfl⟩
   have q3 : IntKind.u32.wrap ((a2 : Int) + (xk : Int)) = (a3 : Int) := by rw [IntKind.wrap_u32]; omega
   obtain ⟨t1, ht1⟩ : ∃ a, a = (a3 + xw) % 4294967296 := ⟨_, rfl⟩
   have q4 : IntKind.u32.wrap ((a3 : Int) + (xw : Int)) = (t1 : Int) := by rw [IntKind.wrap_u32]; omega
   obtain ⟨t2, ht2⟩ : ∃ a, a = (g0 + v9) % 4294967296 := ⟨_, rfl⟩
   have q5 : IntKind.u32.wrap ((g0 : Int) + (v9 : Int)) = (t2 : Int) := by rw [IntKind.wrap_u32]; omega
   obtain ⟨a5, ha5⟩ : ∃ a, a = (t1 + t2) % 4294967296 := ⟨_, rfl⟩
   have q6 : IntKind.u32.wrap ((t1 : Int) + (t2 : Int)) = (a5 : Int) := by rw [IntKind.wrap_u32]; omega
   obtain ⟨a6, ha6⟩ : ∃ a, a = (xd + t1) % 4294967296 := ⟨_, rfl⟩
   have q7 : IntKind.u32.wrap ((xd : Int) + (t1 : Int)) = (a6 : Int) := by rw [IntKind.wrap_u32]; omega
   have hnx := HNX.out
   rw [show (xh + g1 + v4 + xk + xw) % 4294967296 = t1 by omega, <- ht2, <- ha5, <- ha6] at hnx
   have HN : Hid (wA (stepsN s W (k + 1)).list = #[.int .u32 (a5 : Int), .int .u32 (xa : Int), .int .u32 (xb : Int), .int .u32 (xc : Int), .int .u32 (a6 : Int), .int .u32 (xe : Int), .int .u32 (xf : Int), .int .u32 (xg : Int)]) := by show _ = _; rw [hnx]; rfl
   clear hxk hxw hS hnx HNX ha1 ha2 ha3 ht1 ht2 ha5 ha6 hg1 hg0 hv9 hv8 hv7 hv6 hv5 hv4 hv3 hv2 hv1 la lb lc ld le lf lg lh hkl hwl HST hk;go_wp2
   refine wp_region_still_tail 22 (by kernel_rfl) (by kernel_rfl) ?_
   simp only [List.take_succ_cons, List.take_zero, List.drop_succ_cons, List.drop_zero]
   change wpStill _ _ wr.drew _ _ _
   repeat still_step
   still_call (HG1.out _)
   repeat still_step
   refine wpStill_nil ?_
   change wpList _ _ _ _ _ wr.drew
   go_wp2_with fail
   refine (HG0.out _).mono ?_
   rintro r1 w1' ⟨rfl, rfl⟩
   have hsd : wr.drew.heap[sb]? = some (.cells (wA [xa, xb, xc, xd, xe, xf, xg, xh]) 98 (0, 0)) := hsk.out
   have HSD := Lib.hid hsd;clear hsd;go_wp2_with (first
    | (refine wpList_store_row rfl 98 (.tmp 5) (.tmp 96) rfl sb #[.int .u32 (a5 : Int), .int .u32 (xa : Int), .int .u32 (xb : Int), .int .u32 (xc : Int), .int .u32 (a6 : Int), .int .u32 (xe : Int), .int .u32 (xf : Int), .int .u32 (xg : Int)] rfl rfl 98 _ HSD.out (by rw [eight100]; rfl) (by rfl) (by simp [Value.oneCell']) ?_)
    | fail)
   go_roundw
   case rel => exact ⟨k + 1, by have := HK.out; omega, by go_num, by rw [HN.out]; exact setRow_heap _ _ _ _ _ _ HSD.out, (setRow_other _ _ _ _ (by have := HLT.out; omega)).trans hwk.out, below_setRow hbel.out.drew (by have := HLT.out; omega) _⟩
   case measure => simp [intOf]; have := HK.out; omega
  ·have hk64 : k = 64 := by omega
   have hd : decide ((k : Int) < 64) = false := by simp; omega
   have HF : Hid (blockN s b = s.add (stepsN s W k)) := by show _ = _; rw [HW.out, hk64]; rfl
   obtain ⟨S, hS⟩ : ∃ S, S = stepsN s W k := ⟨_, rfl⟩
   rw [<- hS] at hsk HF;have HSS := Lib.hid hsk.out;have HHR : Hid (wr.heap[hq]? = some (.cells (hashA t (addP s.list S.list 0) r n) 100 (0, 0))) := by
    rw [addP_zero]; exact (hbel.out.block _ (lt_of_block HH.out)).trans HH.out
   have HB := Lib.hid hbel.out;have HNE : Hid (sb ≠ hq) := by have h1 := HLT.out; have h2 := lt_of_block HH.out; show _ ≠ _; omega
   have HSV : Hid (Save hq hq w wr) := ⟨hbel.out.mono (Nat.le_of_lt (lt_of_block HH.out)), fun k hk _ => hbel.out.block k hk⟩
   clear hS hsk hwk hbel hk hlt hk64;go_wp2
   go_loopw [98] (fun vi wx => ∃ k : Nat, k <= 8 /\ vi = .int .i64 (k : Int) /\ Hid (wx.heap[hq]? = some (.cells (hashA t (addP s.list S.list k) r n) 100 (0, 0))) /\ Hid (wx.heap[sb]? = some (.cells (wA S.list) 98 (0, 0))) /\ Hid (Save hq hq w wx)) (fun vi _ => 8 - (intOf vi).toNat)
   case atStart => exact ⟨0, by omega, rfl, HHR.out, HSS.out, HSV.out⟩
   case round =>
    clear HHR HSS HSV HB;obtain ⟨k, hk, rfl, hhk, hsk, hsv⟩ := hrel
    have hl8 : s.list.length = S.list.length := rfl
    by_cases hlt : k < 8
    ·have hd8 : decide ((k : Int) < 8) = true := by simp; omega
     have dl8 : (k : Int) < 8 := by omega
     have d0 : ¬ (k : Int) < 0 := by omega
     have HK := Lib.hid hlt;have hal : (addP s.list S.list k).length = 8 := addP_len _ _ _ hl8 hk
     have f0 := free_at hhk.out (1 + k)
     have c0 := (cells_at hhk.out (1 + k)).trans (hash_word t _ r n k (by rw [hal]; exact hlt))
     rw [addP_get _ _ _ hl8 hlt] at c0
     have c1 := (cells_at hsk.out k).trans (wA_get _ k hlt)
     have hset := addP_set s.list S.list k hl8 hlt
     obtain ⟨x, hx⟩ : ∃ x, x = s.list.getD k 0 := ⟨_, rfl⟩
     obtain ⟨y, hy⟩ : ∃ x, x = S.list.getD k 0 := ⟨_, rfl⟩
     rw [<- hx] at c0 hset;rw [<- hy] at c1 hset;obtain ⟨z, hz⟩ : ∃ z, z = (x + y) % 4294967296 := ⟨_, rfl⟩
     have e1 : IntKind.u32.wrap ((x : Int) + (y : Int)) = (z : Int) := by rw [IntKind.wrap_u32]; omega
     rw [<- hz] at hset;have nb := block_at hhk.out (1 + k) (.int .u32 (z : Int))
     rw [hash_set t _ r n k z (by rw [hal]; exact hlt), hset] at nb
     have NB := Lib.hid nb
     clear nb hz hx hy hset hal hk hlt;go_wp2
     refine wp_region_still_tail 13 (by kernel_rfl) (by kernel_rfl) ?_
     simp only [List.take_succ_cons, List.take_zero, List.drop_succ_cons, List.drop_zero]
     change wpStill _ _ wr.drew _ _ _
     repeat still_step
     refine wpStill_nil ?_
     change wpList _ _ _ _ _ wr.drew
     go_wp2
     go_roundw
     case rel => exact ⟨k + 1, by have := HK.out; omega, by go_num, NB.out, (Below.heap_setCell _ _ _ _ (by have := HNE.out; exact this)).trans hsk.out, hsv.out.drew.setCell (Nat.le_refl _) _ _⟩
     case measure => simp [intOf]; have := HK.out; omega
    ·have hk8 : k = 8 := by omega
     have hd8 : decide ((k : Int) < 8) = false := by simp; omega
     have HFIN : Hid (wr.heap[hq]? = some (.cells (hashA t (blockN s b).list r n) 100 (0, 0))) := by
      have h := hhk.out
      rw [hk8, show 8 = s.list.length from rfl, addP_full _ _ hl8, <- list_add, <- HF.out] at h
      exact h
     clear hhk hk hk8 hlt hl8;go_wp2
     go_end0
     exact ⟨rfl, HFIN.out, hsv.out⟩
theorem zeros_list (v : Value) (n : Nat) : (Builtin.zeroCells #[v] n).toList = List.replicate n v := by
 apply List.ext_getElem?
 intro i;rcases Nat.lt_or_ge i n with h | h
 ·simp [Builtin.zeroCells, h, Nat.mod_one]
 ·simp [Builtin.zeroCells, h]
theorem run_zeros (w : World) (base b c k : Nat) (hk : k <= 64) (hb : base <= b) (hbl : b < w.heap.size) (h : w.heap[b]? = some (.cells #[.int .u8 (c : Int)] 5 (0, 0))) :
  ∃ v' w', (∀ ty, (Builtin.append_ #[22, 3] ty #[.slice (some ⟨b, 0, none⟩) 1 1, .int .i64 (k : Int)]).run Tryz.prog w = .ok v' w') /\ w'.ownsRow base 5 1 v' (1 + k) ((bA (c :: List.replicate k 0)).toList) /\ w.grownBy w' none := by
 obtain ⟨i0, hi0, hzz⟩ := Option.map_eq_some_iff.1 u8info
 simp only [Prod.mk.injEq] at hzz
 obtain ⟨hz0, hs0, hb0⟩ := hzz
 rcases Nat.eq_zero_or_pos k with rfl | h0
 ·refine ⟨.slice (some ⟨b, 0, none⟩) 1 1, w, fun ty => ?_, ⟨by simp [bA], .inr ⟨b, 1, _, rfl, hb, h, Nat.le_refl _, by unfold maxLen; omega, by simp, by simp [bA]⟩⟩, World.grownBy.refl w _⟩
  have hw : IntKind.i64.wrap (0 : Int) = 0 := by rfl
  simp [Builtin.append_, run_underlying Tryz.underlying22, run_underlying Tryz.underlying3, sizeOf, typeInfo, zeroValue, hi0, hz0, asInt, asIntOf, hw, Builtin.zeroCells, storeCells]
 ·have hold : (Builtin.firstCells i0.size 1 (.slice (some ⟨b, 0, none⟩) 1 1)).run Tryz.prog w.drew = .ok #[.int .u8 (c : Int)] w.drew := by
   refine run_firstCells_some (P := Tryz.prog) (w := w.drew) i0.size 1 ⟨b, 0, none⟩ 1 1 [.int .u8 (c : Int)] (by rw [hs0]; rfl) (fun j v hv => ?_)
   have hj : j = 0 := by have := (List.getElem?_eq_some_iff.1 hv).1; simpa using this
   subst hj;exact (cells_at (w := w.drew) h 0).trans hv
  have hrz := fun ty => Lib.run_append_grow_zeros w 22 3 ty 5 i0 (.int .u8 0) .i64 .i64 Tryz.underlying22 Tryz.underlying3 hi0 hz0 (some ⟨b, 0, none⟩) 1 1 [.int .u8 (c : Int)] hold k h0 (by omega) (by omega) (by omega) (by rw [hb0]; omega)
   (growslice_fits (by omega) (by rw [hb0]; omega))
  have hGn : 1 + k <= grownCap w (1 + k) 1 5 := grownCap_ge w _ _ _
  have hGm := grownCap_le_maxLen w (1 + k) 1 5 (by unfold maxLen; omega)
  generalize grownCap w (1 + k) 1 5 = G at *
  refine ⟨_, _, hrz, ⟨by simp [bA]; omega, .inr ⟨w.heap.size, G, _, rfl, by omega, heap_new' _ _, hGn, hGm, ?_, ?_⟩⟩, ?_⟩
  ·show (#[Value.int .u8 (c : Int)] ++ Builtin.zeroCells #[Value.int .u8 0] k ++ Builtin.zeroCells #[Value.int .u8 0] (G - (1 + k))).size = _
   simp [size_zeroCells]; omega
  ·show (#[Value.int .u8 (c : Int)] ++ Builtin.zeroCells #[Value.int .u8 0] k ++ Builtin.zeroCells #[Value.int .u8 0] (G - (1 + k))).toList.take _ = _
   rw [Array.toList_append, Array.toList_append, zeros_list, zeros_list, List.append_assoc]
   simp only [List.cons_append, List.nil_append, Nat.mul_one]
   rw [Nat.add_comm 1 k, List.take_succ_cons, List.take_append_of_le_length (by simp), List.take_of_length_le (by simp)]
   simp [bA]
  ·exact ⟨rfl, rfl, rfl, by simp, fun k hk _ => Below.heap_alloc _ _ _ hk⟩
theorem highB_lt (n v : Nat) : ∀ x ∈ highB n v, x < 256 := by
 intro x hx;simp only [highB, List.mem_map] at hx
 obtain ⟨k, _, rfl⟩ := hx
 exact Nat.mod_lt _ (by decide)
theorem own_up {w w' : World} {base : Nat} {e : TypeId} {size : Nat} {v : Value} {n : Nat} {xs : List Value} (h : w.ownsRow base e size v n xs) (hb : Below w.heap.size w w') : w'.ownsRow base e size v n xs :=
 h.kept (row := none) ⟨hb.os, hb.tape, hb.output, hb.size, fun k hk _ => hb.block k hk⟩ (by
  cases h : v.ownBlock with
  | none => exact .inl rfl
  | some k => exact .inr (by simp))
theorem padL_split (n : Nat) : padL n = (128 :: List.replicate ((119 - n % 64) % 64) 0) ++ highB 8 (8 * n) := by
 unfold padL;rw [List.cons_append]
 rfl
theorem pad_c (n : Nat) (hn : n <= 1099511627776) (w : World) :
  Calls Tryz.prog 39 #[.int .i64 (n : Int)] w fun e w' => ∃ v, e = .returned v /\ w'.ownsRow w.heap.size 5 1 v (padL n).length (bA (padL n)).toList /\ Below w.heap.size w w' := by
 have d0 : decide ((n : Int) < 0) = false := by simp
 have d1 : decide ((n : Int) > 1099511627776) = false := by simp; omega
 have d1' : decide (1099511627776 < (n : Int)) = false := by simp; omega
 obtain ⟨z, hz⟩ : ∃ z, z = (119 - n % 64) % 64 := ⟨_, rfl⟩
 have hz64 : z <= 64 := by omega
 have HZ := Lib.hid hz;have HN := Lib.hid hn;have e1 : ((119 : Int) - (n : Int) % 64) % 64 = (z : Int) := by omega
 obtain ⟨m, hm⟩ : ∃ m, m = 8 * n := ⟨_, rfl⟩
 have e2 : IntKind.u64.wrap (8 * IntKind.u64.wrap (n : Int)) = (m : Int) := by simp only [IntKind.wrap_u64]; omega
 have HM := Lib.hid hm;have H0 : Hid ((w.alloc (.cells #[.int .u8 128] 5)).heap[w.heap.size]? = some (.cells #[.int .u8 ((128 : Nat) : Int)] 5 (0, 0))) := heap_new' _ _
 have HZ64 := Lib.hid hz64;clear hz hn hm hz64;obtain ⟨v1, w1, hrun, hown, hgr⟩ := run_zeros (w.alloc (.cells #[.int .u8 128] 5)) w.heap.size w.heap.size 128 z HZ64.out (Nat.le_refl _) (by simp) H0.out
 have HRUN := Lib.hid hrun;have HOWN := Lib.hid hown;have HBE : Hid (Below w.heap.size w w1) := ((Below.refl _ _).alloc (Nat.le_refl _) _).grown hgr (by simp) (fun k e => by cases e)
 clear hrun hown hgr
 go_enter Tryz.func39, Tryz.ntmps39
 go_wp2_with (first
  | (at_builtin; simp only [e1]; refine Lib.wpList_append_run _ rfl _ _ _ _ rfl _ _ rfl rfl _ _ (HRUN.out _) ?_)
  | fail)
 refine (high_c 8 m (by have := HM.out; have := HN.out; omega) (by omega) (by omega) 8 (m : Int) rfl rfl _).mono ?_
 rintro e w2 ⟨b, rfl, hb1, hb2, hbl, hbel⟩
 have HBL := Lib.hid hbl;have HB2 : Hid (Below w.heap.size w w2) := HBE.out.trans (hbel.mono HBE.out.size)
 have HOWN2 : Hid (w2.ownsRow w.heap.size 5 1 v1 (1 + z) ((bA (128 :: List.replicate z 0)).toList)) := own_up HOWN.out hbel
 clear hb1 hb2 hbl hbel;go_wp2_with (first
  | (refine wpList_append_bytes (v := v1) (base := w.heap.size) (n := 1 + z) (m := 8) (l := highB 8 m) rfl (.tmp 18) (.tmp 22) rfl rfl HOWN2.out rfl (highB_len _ _) (bytesAt_block (highB_lt _ _) HBL.out) (fun h => by cases h) (by have := HZ64.out; omega) HB2.out.size ?_; intro v3 w3 hown3 hgr3; have HOWN3 := Lib.hid hown3; have HB3 : Hid (Below w.heap.size w w3) := HB2.out.grown hgr3 HB2.out.size (fun k hk => (HOWN2.out.lt k hk).1); clear hown3 hgr3)
  | fail)
 go_ret
 refine ⟨_, rfl, ?_, HB3.out⟩
 have h := HOWN3.out
 have e : padL n = (128 :: List.replicate z 0) ++ highB 8 m := by rw [padL_split, <- HZ.out, <- HM.out]
 rw [e];have e2 : ((128 :: List.replicate z 0) ++ highB 8 m).length = 1 + z + 8 := by simp [highB_len]; omega
 rw [e2];simpa [bA] using h
theorem blocks_app (m p : List Nat) : ∀ k, 64 * k <= m.length -> blocksN (m ++ p) k = blocksN m k
 | 0, _ => rfl
 | k + 1, h => by
  show blockN (blocksN (m ++ p) k) _ = blockN (blocksN m k) _
  rw [blocks_app m p k (by omega), List.drop_append_of_le_length (by omega), List.take_append_of_le_length (by rw [List.length_drop]; omega)]
theorem HT_ok : St.ok HT := by unfold St.ok; decide
theorem blocks_ok (m : List Nat) : ∀ k, St.ok (blocksN m k)
 | 0 => HT_ok
 | k + 1 => block_ok _ _
theorem hash_rest (t : Nat) (S : St) (r : Value) (n : Int) (v : Value) : (hashA t S.list r n).setIfInBounds 9 v = hashA t S.list v n := rfl
theorem hash_n (t : Nat) (S : St) (r : Value) (n n' : Int) : (hashA t S.list r n).setIfInBounds 10 (.int .i64 n') = hashA t S.list r n' := rfl
abbrev Parts := List (Option Addr × Nat × List Nat)
def catP (P : Parts) : List Nat := (P.map (·.2.2)).flatten
theorem catP_succ (P : Parts) (k : Nat) (h : k < P.length) : catP (P.take (k + 1)) = catP (P.take k) ++ (P[k]).2.2 := by
 unfold catP; rw [List.take_succ_eq_append_getElem h]; simp only [List.map_append, List.flatten_append, List.map_cons, List.map_nil, List.flatten_cons, List.flatten_nil, List.append_nil]
theorem catP_le (P : Parts) (k : Nat) : (catP (P.take k)).length <= (catP P).length := by
 have : catP P = catP (P.take k) ++ catP (P.drop k) := by
  unfold catP; rw [<- List.flatten_append, <- List.map_append, List.take_append_drop]
 rw [this, List.length_append]; omega
def HS (w : World) (B hq t : Nat) (m : List Nat) (r : Value) (n : Nat) : Prop :=
 w.heap[hq]? = some (.cells (hashA t (blocksN m (m.length / 64)).list r (n : Int)) 100 (0, 0)) /\ w.ownsRow B 5 1 r (m.length % 64) (bA (m.drop (64 * (m.length / 64)))).toList
def Fr (B hq : Nat) (r : Value) (w w' : World) : Prop := Below B w w' /\ ∀ k, k < w.heap.size -> k ≠ hq -> r.ownBlock ≠ some k -> w'.heap[k]? = w.heap[k]?
theorem Fr.refl (B hq : Nat) (r : Value) (w : World) : Fr B hq r w w := ⟨Below.refl _ _, fun _ _ _ _ => rfl⟩
theorem Fr.setCell {B hq : Nat} {r : Value} {a b : World} (h : Fr B hq r a b) (hB : B <= hq) (o : Nat) (v : Value) : Fr B hq r a (b.setCell ⟨hq, o, none⟩ v) :=
 ⟨h.1.setCell hB _, fun k hk h1 h2 => (Below.heap_setCell _ _ _ _ (by simpa using h1)).trans (h.2 k hk h1 h2)⟩
theorem Fr.grown {B hq : Nat} {r s : Value} {a b c : World} (h : Fr B hq r a b) (hB : B <= a.heap.size) (hg : b.grownBy c s.ownBlock) (hs : ∀ k, s.ownBlock = some k -> B <= k /\ (r.ownBlock = some k \/ a.heap.size <= k)) : Fr B hq r a c :=
 ⟨h.1.grown hg (Nat.le_trans hB h.1.size) (fun k e => (hs k e).1), fun k hk h1 h2 => (hg.block k (Nat.lt_of_lt_of_le hk h.1.size) (fun e => by
  rcases (hs k e.symm).2 with h3 | h3
  ·exact h2 h3
  ·omega)).trans (h.2 k hk h1 h2)⟩
theorem Fr.save {B hq : Nat} {r : Value} {a b c : World} (h : Fr B hq r a b) (hB : B <= hq) (hg : Save hq hq b c) : Fr B hq r a c :=
 ⟨h.1.trans (hg.1.mono hB), fun k hk h1 h2 => (hg.2 k (Nat.lt_of_lt_of_le hk h.1.size) h1).trans (h.2 k hk h1 h2)⟩
theorem Fr.drew {B hq : Nat} {r : Value} {a b : World} (h : Fr B hq r a b) : Fr B hq r a b.drew := ⟨h.1.drew, h.2⟩
theorem own_apart {w : World} {base : Nat} {v : Value} {n : Nat} {xs : List Value} (h : w.ownsRow base 5 1 v n xs) {k : Nat} {A : Array Value} {t : TypeId} {z : Nat × Nat} (hk : w.heap[k]? = some (.cells A t z)) (ht : t ≠ 5) : v.ownBlock ≠ some k := by
 rcases h.2 with ⟨rfl, _⟩ | ⟨g, cap, cur, rfl, _, hg, _⟩
 ·simp [Value.ownBlock]
 ·intro e
  simp [Value.ownBlock] at e
  subst e;rw [hk] at hg
  injection hg with hg
  injection hg with _ h2 _
  exact ht h2
theorem own_keepS {w w' : World} {base : Nat} {e : TypeId} {size : Nat} {v : Value} {n : Nat} {xs : List Value} (h : w.ownsRow base e size v n xs) (hk : ∀ k, v.ownBlock = some k -> w'.heap[k]? = w.heap[k]?) : w'.ownsRow base e size v n xs := by
 refine ⟨h.1, ?_⟩
 rcases h.2 with h2 | ⟨g, cap, cur, rfl, h3, hg, h4⟩
 ·exact .inl h2
 ·exact .inr ⟨g, cap, cur, rfl, h3, (hk g rfl).trans hg, h4⟩
theorem bytes_keepS {w w' : World} {a : Option Addr} {cap : Nat} {l : List Nat} (hB : BytesAt w a cap l) (hk : ∀ g o, a = some ⟨g, o, none⟩ -> g < w.heap.size -> w'.heap[g]? = w.heap[g]?) : BytesAt w' a cap l := by
 refine ⟨hB.1, fun h0 => ?_⟩
 obtain ⟨g, o, h1, h2, h3, h4⟩ := hB.2 h0
 have he := hk g o h1 h3
 refine ⟨g, o, h1, h2, ?_, fun j hj => ?_⟩
 ·have := he.trans (Array.getElem?_eq_getElem h3)
  exact (Array.getElem?_eq_some_iff.1 this).1
 ·rw [<- h4 j hj]; simp [World.cell?, he]
theorem own_mono {w : World} {base base2 : Nat} {e : TypeId} {size : Nat} {v : Value} {n : Nat} {xs : List Value} (h : w.ownsRow base e size v n xs) (hb : base2 <= base) : w.ownsRow base2 e size v n xs := by
 refine ⟨h.1, ?_⟩
 rcases h.2 with h2 | ⟨g, cap, cur, rfl, h3, h4⟩
 ·exact .inl h2
 ·exact .inr ⟨g, cap, cur, rfl, Nat.le_trans hb h3, h4⟩
theorem bA_app (a b : List Nat) : (bA a).toList ++ (bA b).toList = (bA (a ++ b)).toList := by simp [bA]
theorem own_bytes {w : World} {base : Nat} {v : Value} {n : Nat} {l : List Nat} (hl : ∀ x ∈ l, x < 256) (h : w.ownsRow base 5 1 v n (bA l).toList) : ∃ a cap, v = .slice a n cap /\ BytesAt w a cap l /\ l.length = n /\ n <= cap /\ cap <= maxLen /\ (a = none -> cap = 0) /\ (∀ g o z, a = some ⟨g, o, z⟩ -> base <= g /\ o = 0 /\ z = none /\ v.ownBlock = some g /\ g < w.heap.size) := by
 have hln : l.length = n := by have := h.1; simpa [bA] using this
 rcases h.2 with ⟨rfl, rfl⟩ | ⟨g, cap, cur, rfl, h3, hg, h4, h5, h6, h7⟩
 ·exact ⟨none, 0, rfl, ⟨hl, fun h0 => by omega⟩, hln, Nat.le_refl _, Nat.zero_le _, fun _ => rfl, (fun _ _ _ h => by cases h)⟩
 ·refine ⟨_, cap, rfl, ⟨hl, fun h0 => ⟨g, 0, rfl, by omega, lt_of_block hg, fun j hj => ?_⟩⟩, hln, h4, h5, (fun h => by cases h), fun g' o z h => ?_⟩
  ·rw [Nat.zero_add, cells_at hg j]
   have := congrArg (fun l => l[j]?) h7
   simp only [Nat.mul_one] at *
   rw [List.getElem?_take_of_lt (by omega), Array.getElem?_toList, Array.getElem?_toList, bA_get _ j hj] at *
   assumption
  ·cases h
   exact ⟨h3, rfl, rfl, rfl, lt_of_block hg⟩
theorem bytes_keepL {w w' : World} {a : Option Addr} {cap : Nat} {l : List Nat} (hB : BytesAt w a cap l) (hk : 0 < l.length -> ∀ g o, a = some ⟨g, o, none⟩ -> g < w.heap.size -> w'.heap[g]? = w.heap[g]?) : BytesAt w' a cap l := by
 refine ⟨hB.1, fun h0 => ?_⟩
 exact (bytes_keepS hB (hk h0)).2 h0
theorem hwrite2_c (B hq t : Nat) (m : List Nat) (r : Value) (n : Nat) (ps po pc : Nat) (P : Parts) (w : World) (hBq : B <= hq) (hBw : B <= w.heap.size) (hm : ∀ x ∈ m, x < 256)
  (hS : HS w B hq t m r n) (hT : w.heap[t]? = some (.cells (wA (KT ++ HL)) 64 (0, 0)))
  (hP : ∀ k s, P[k]? = some s -> w.cell? ⟨ps, po + k, none⟩ = some (.slice s.1 s.2.2.length s.2.1) /\ BytesAt w s.1 s.2.1 s.2.2 /\ (s.1 = none -> s.2.1 = 0) /\ (0 < s.2.2.length -> ∀ g o, s.1 = some ⟨g, o, none⟩ -> g ≠ hq /\ r.ownBlock ≠ some g))
  (hps : ps ≠ hq /\ r.ownBlock ≠ some ps /\ ps < w.heap.size) (hPl : P.length <= 1000000) (hN : n + (catP P).length <= 1000000) (hM : m.length + (catP P).length <= 1000000) :
  Calls Tryz.prog 26 #[.pointer (some ⟨hq, 0, none⟩), .slice (some ⟨ps, po, none⟩) P.length pc] w fun e w' => e = .returned undef /\ ∃ r', HS w' B hq t (m ++ catP P) r' (n + (catP P).length) /\ Fr B hq r w w' := by
 have HSW := Lib.hid hS;have HTN : Hid (t ≠ hq /\ r.ownBlock ≠ some t) := by
  refine ⟨?_, own_apart hS.2 hT (by decide)⟩
  rintro rfl
  have h := hS.1
  rw [hT] at h
  injection h with h
  injection h with _ h2 _
  exact absurd h2 (by decide)
 have HTT := Lib.hid hT;have HP := Lib.hid hP;have HPS := Lib.hid hps;have HN := Lib.hid hN;have HM := Lib.hid hM;have HPL := Lib.hid hPl;have HB := Lib.hid (And.intro hBq hBw)
 have HMB := Lib.hid hm;clear hS hT hP hps hN hM hPl hBq hBw hm
 go_enter Tryz.func26, Tryz.ntmps26
 go_wp2
 go_loopw [11] (fun vi wr => ∃ k : Nat, k <= P.length /\ vi = .int .i64 (k : Int) /\ ∃ r', Hid (HS wr B hq t (m ++ catP (P.take k)) r' (n + (catP (P.take k)).length)) /\ Hid (Fr B hq r w wr) /\ Hid (∀ b, r'.ownBlock = some b -> r.ownBlock = some b \/ w.heap.size <= b)) (fun vi _ => P.length - (intOf vi).toNat)
 case atStart => exact ⟨0, by omega, rfl, r, by show HS _ _ _ _ _ _ _; simpa [catP] using HSW.out, Fr.refl _ _ _ _, fun b h => .inl h⟩
 case round =>
  clear HSW;obtain ⟨k, hk, rfl, rk, hsk, hfr, hrk⟩ := hrel
  by_cases hlt : k < P.length
  ·have hd : decide ((k : Int) < (P.length : Int)) = true := by simp; omega
   have dl : (k : Int) < (P.length : Int) := by omega
   have d0 : ¬ (k : Int) < 0 := by omega
   have HK := Lib.hid hlt;obtain ⟨hp1, hp2, hp3, hp4⟩ := HP.out k _ (List.getElem?_eq_getElem hlt)
   have hcs := catP_succ P k hlt
   have hcl := catP_le P (k + 1)
   generalize P[k] = sg at *
   obtain ⟨pa, pcap, pl⟩ := sg
   simp only at hp1 hp2 hp3 hp4 hcs
   obtain ⟨mk, hmk⟩ : ∃ mk, mk = m ++ catP (P.take k) := ⟨_, rfl⟩
   obtain ⟨nk, hnk⟩ : ∃ nk, nk = n + (catP (P.take k)).length := ⟨_, rfl⟩
   rw [<- hmk, <- hnk] at hsk
   obtain ⟨ln, hln⟩ : ∃ ln, ln = pl.length := ⟨_, rfl⟩
   have cp : wr.cell? ⟨ps, po + k, none⟩ = some (.slice pa ln pcap) := by
    rw [hln, <- hp1]; simp only [World.cell?]; rw [hfr.out.2 ps HPS.out.2.2 HPS.out.1 HPS.out.2.1]
   have hnl : nk + ln <= 1000000 := by have := HN.out; rw [hcs, List.length_append] at hcl; omega
   have hml : mk.length + ln <= 1000000 := by have := HM.out; rw [hcs, List.length_append] at hcl; rw [hmk, List.length_append]; omega
   have HE : Hid (m ++ catP (P.take (k + 1)) = mk ++ pl /\ n + (catP (P.take (k + 1))).length = nk + ln) := by
    refine ⟨by rw [hcs, hmk, List.append_assoc], by rw [hcs, hnk, List.length_append]; omega⟩
   have HPB : Hid (BytesAt wr pa pcap pl) := bytes_keepL hp2 (fun h0 g o h hl => hfr.out.2 g hl (hp4 h0 g o h).1 (hp4 h0 g o h).2)
   have hq0 := hsk.out.1
   have hown0 := hsk.out.2
   have hne0 := own_apart hown0 hq0 (by decide)
   obtain ⟨S0, hS0⟩ : ∃ S, S = blocksN mk (mk.length / 64) := ⟨_, rfl⟩
   rw [<- hS0] at hq0;have c10 := (cells_at hq0 10).trans (show _ = some (Value.int .i64 (nk : Int)) from rfl)
   have f10 := free_at hq0 10
   have ew : IntKind.i64.wrap ((nk : Int) + (ln : Int)) = ((nk + ln : Nat) : Int) := by rw [IntWalk.i64_in _ (by omega)]; omega
   obtain ⟨n1, hn1⟩ : ∃ n1, n1 = nk + ln := ⟨_, rfl⟩
   rw [<- hn1] at ew;have nb := block_at hq0 10 (.int .i64 (n1 : Int))
   rw [hash_n] at nb;have HQ1 := Lib.hid nb;have HR1 : Hid ((wr.setCell ⟨hq, 10, none⟩ (.int .i64 (n1 : Int))).ownsRow B 5 1 rk (mk.length % 64) (bA (mk.drop (64 * (mk.length / 64)))).toList) := own_keepS hown0 (fun k hk => Below.heap_setCell _ _ _ _ (by rintro rfl; exact hne0 hk))
   have HP1 : Hid (BytesAt (wr.setCell ⟨hq, 10, none⟩ (.int .i64 (n1 : Int))) pa pcap pl) := bytes_keepL HPB.out (fun h0 g o h _ => Below.heap_setCell _ _ _ _ (hp4 h0 g o h).1)
   have HF1 : Hid (Fr B hq r w (wr.setCell ⟨hq, 10, none⟩ (.int .i64 (n1 : Int)))) := hfr.out.setCell HB.out.1 _ _
   have HLN := Lib.hid hln.symm;have HNE0 := Lib.hid hne0;have HML := Lib.hid hml;have HN1 := Lib.hid hn1;have HN3 := Lib.hid hp3;have HRK := Lib.hid hrk.out;have c9 : (wr.setCell ⟨hq, 10, none⟩ (.int .i64 (n1 : Int))).cell? ⟨hq, 9, none⟩ = some rk := (cells_at HQ1.out 9).trans rfl
   have HMK : Hid (∀ x ∈ mk ++ pl, x < 256) := by
    intro x hx;rcases List.mem_append.1 hx with hx | hx
    ·rw [hmk] at hx
     rcases List.mem_append.1 hx with hx | hx
     ·exact HMB.out x hx
     ·unfold catP at hx
      rw [List.mem_flatten] at hx;obtain ⟨l, hl, hx⟩ := hx
      rw [List.mem_map] at hl;obtain ⟨s, hs, rfl⟩ := hl
      obtain ⟨i, hi, he⟩ := List.getElem_of_mem hs
      have hs2 : P[i]? = some s := by
       rw [List.length_take] at hi;rw [List.getElem_take] at he;rw [List.getElem?_eq_getElem (by omega), he]
      exact (HP.out i s hs2).2.1.1 x hx
    ·exact HPB.out.1 x hx
   obtain ⟨M, hM⟩ : ∃ M, M = mk ++ pl := ⟨_, rfl⟩
   have HMM := Lib.hid hM;rw [<- hM] at HE HMK;obtain ⟨q0, hq00⟩ : ∃ q, q = mk.length / 64 := ⟨_, rfl⟩
   have HQ0 := Lib.hid hq00;have HRES : Hid (mk.drop (64 * q0) ++ pl = M.drop (64 * q0)) := by
    show _ = _
    rw [hM, List.drop_append_of_le_length (by omega)]
   have HLL : Hid (mk.length % 64 + ln = M.length - 64 * q0 /\ 64 * q0 <= mk.length /\ M.length = mk.length + ln) := by
    have h : M.length = mk.length + ln := by rw [hM, List.length_append, hln]
    exact ⟨by omega, by omega, h⟩
   rw [<- hq00] at hS0 HR1;have HSB : Hid (S0 = blocksN M q0) := by
    show _ = _
    rw [hS0, hM, blocks_app _ _ _ (by omega)]
   clear hM hq00 hq0 hown0 hne0 hS0 nb hn1 hln hp1 hp2 hp3 hp4 hcs hcl hmk hnk hnl hml hk hlt hsk hfr hrk HPB;go_wp2_with (first
    | (refine wpList_append_bytes (v := rk) (base := B) (l := pl) rfl (.tmp 28) (.tmp 29) rfl rfl HR1.out rfl HLN.out HP1.out HN3.out (by have := HML.out; omega) (Nat.le_trans HB.out.2 HF1.out.1.size) ?_; intro v2 w2 hown2 hgr2; rw [bA_app, HRES.out] at hown2; obtain ⟨a2, cap2, hv2, hb2, hl2, hlc2, hcm2, hn2, hg2⟩ := own_bytes (fun x hx => HMK.out x (List.mem_of_mem_drop hx)) hown2; have HOWN2 := Lib.hid hown2; have HGR2 := Lib.hid hgr2; have HB2 := Lib.hid hb2; have HL2 := Lib.hid hl2; have HLC2 := Lib.hid hlc2; have HCM2 := Lib.hid hcm2; have HN2 := Lib.hid hn2; have HG2 := Lib.hid hg2; have HQ2 : Hid (w2.heap[hq]? = some (.cells (hashA t S0.list rk (n1 : Int)) 100 (0, 0))) := (hgr2.block hq (lt_of_block HQ1.out) (fun e => HNE0.out e.symm)).trans HQ1.out; have f9 := free_at HQ2.out 9; have c9b := (cells_at HQ2.out 9).trans (show _ = some rk from rfl); subst hv2; clear hown2 hgr2 hb2 hl2 hlc2 hcm2 hn2 hg2)
    | fail)
   obtain ⟨L, hL⟩ : ∃ L, L = mk.length % 64 + ln := ⟨_, rfl⟩
   have HLD : Hid (L = M.length - 64 * q0 /\ L <= 1000000) := by
    have h1 := HLL.out; have h2 := HML.out
    exact ⟨by omega, by omega⟩
   rw [<- hL] at HOWN2 HL2 HLC2 HG2 ⊢
   have nb3 := block_at HQ2.out 9 (.slice a2 L cap2)
   rw [hash_rest, HSB.out] at nb3
   have HNE2 := Lib.hid (own_apart HOWN2.out HQ2.out (by decide))
   have HW3 : Hid ((w2.setCell ⟨hq, 9, none⟩ (.slice a2 L cap2)).ownsRow B 5 1 (.slice a2 L cap2) L (bA (M.drop (64 * q0))).toList) := own_keepS HOWN2.out (fun k hk => Below.heap_setCell _ _ _ _ (by rintro rfl; exact HNE2.out hk))
   have HF3 : Hid (Fr B hq r w (w2.setCell ⟨hq, 9, none⟩ (.slice a2 L cap2))) := (HF1.out.grown HB.out.2 HGR2.out (fun k hk => ⟨(HR1.out.lt k hk).1, HRK.out k hk⟩)).setCell HB.out.1 _ _
   have HQ3 := Lib.hid nb3;generalize w2.setCell ⟨hq, 9, none⟩ (.slice a2 L cap2) = W3 at *
   clear nb3 hL HQ2 HGR2 HOWN2 c9b f9 c9 f10 c10 cp HQ1 HR1 HP1 HF1 HB2 ew
   go_loopw [6] (fun va wx => ∃ i x : Nat, x <= L /\ va = .int .i64 (x : Int) /\ Hid (x = 64 * i) /\ Hid (wx.heap[hq]? = some (.cells (hashA t (blocksN M (q0 + i)).list (.slice a2 L cap2) (n1 : Int)) 100 (0, 0))) /\ Hid (wx.ownsRow B 5 1 (.slice a2 L cap2) L (bA (M.drop (64 * q0))).toList) /\ Hid (Fr B hq r w wx)) (fun va _ => L - (intOf va).toNat)
   case atStart => exact ⟨0, 0, by omega, rfl, rfl, HQ3.out, HW3.out, HF3.out⟩
   case round =>
    clear HQ3 HW3 HF3;obtain ⟨i, x, hx, rfl, hxi, hqx, hox, hfx⟩ := hrel
    have c9 : wr.cell? ⟨hq, 9, none⟩ = some (.slice a2 L cap2) := (cells_at hqx.out 9).trans rfl
    have hxl := HLD.out.2
    obtain ⟨y, hy⟩ : ∃ y, y = L - x := ⟨_, rfl⟩
    have ey : IntKind.i64.wrap ((L : Int) - (x : Int)) = (y : Int) := by rw [IntWalk.i64_in _ (by omega)]; omega
    by_cases h64 : 64 <= y
    ·have hd2 : decide ((y : Int) >= 64) = true := by simp; omega
     have dl2 : (64 : Int) <= (y : Int) := by omega
     obtain ⟨g, rfl⟩ : ∃ g, a2 = some ⟨g, 0, none⟩ := by
      rcases hox.out.2 with ⟨_, h⟩ | ⟨g, cap, cur, h, _⟩
      ·omega
      ·injection h with h _ _
       exact ⟨g, h⟩
     obtain ⟨x2, hx2⟩ : ∃ x2, x2 = x + 64 := ⟨_, rfl⟩
     have ex2 : IntKind.i64.wrap ((x : Int) + 64) = (x2 : Int) := by rw [IntWalk.i64_in _ (by omega)]; omega
     have s1 : (0 : Int) <= (x : Int) := by omega
     have s2 : (x : Int) <= (x2 : Int) := by omega
     have s3 : (x2 : Int) <= (cap2 : Int) := by have := HLC2.out; omega
     have s4 : ¬ cap2 = x := by have := HLC2.out; omega
     have s5 : x2 - x = 64 := by omega
     have hcell : ∀ j, j < 64 -> wr.cell? ⟨g, x + j, none⟩ = some (.int .u8 ((((M.drop (64 * (q0 + i))).take 64).getD j 0 : Nat) : Int)) := fun j hj => by
      have hlen : (M.drop (64 * q0)).length = L := HL2.out
      rw [hox.out.cellAt (x + j) (by omega), Array.getElem?_toList, bA_get _ _ (by omega)]
      congr 3
      rw [List.getD_eq_getElem?_getD, List.getD_eq_getElem?_getD, List.getElem?_take_of_lt hj, List.getElem?_drop, List.getElem?_drop]
      congr 2
      have := hxi.out; omega
     have hbl : ((M.drop (64 * (q0 + i))).take 64).length = 64 := by
      have h1 := HLD.out.1; have h2 := hxi.out
      rw [List.length_take, List.length_drop]; omega
     have HBC := Lib.hid (block_c hq t (blocksN M (q0 + i)) (blocks_ok _ _) (.slice (some ⟨g, 0, none⟩) L cap2) (n1 : Int) g x (cap2 - x) (by have := HLC2.out; omega) ((M.drop (64 * (q0 + i))).take 64) hbl (fun y hy => HMK.out y (List.mem_of_mem_drop (List.mem_of_mem_take hy))) wr (hox.out.lt g rfl).2 hcell hqx.out ((hfx.out.2 t (lt_of_block HTT.out) HTN.out.1 HTN.out.2).trans HTT.out))
     have HX2 : Hid (x2 = 64 * (i + 1) /\ x2 <= L /\ x < x2) := by have := hxi.out; exact ⟨by omega, by omega, by omega⟩
     clear hx2 h64 hy hcell hbl hx hxl;go_wp2_with fail
     refine HBC.out.mono ?_
     rintro e w5 ⟨rfl, hq5, hsv5⟩
     have HQ5 : Hid (w5.heap[hq]? = some (.cells (hashA t (blocksN M (q0 + (i + 1))).list (.slice (some ⟨g, 0, none⟩) L cap2) (n1 : Int)) 100 (0, 0))) := hq5
     have HO5 : Hid (w5.ownsRow B 5 1 (.slice (some ⟨g, 0, none⟩) L cap2) L (bA (M.drop (64 * q0))).toList) := own_keepS hox.out (fun k hk => hsv5.2 k (hox.out.lt k hk).2 (by rintro rfl; exact HNE2.out hk))
     have HF5 : Hid (Fr B hq r w w5) := hfx.out.save HB.out.1 hsv5
     clear hq5 hsv5 HBC;go_wp2
     go_roundw
     case rel => exact ⟨i + 1, x2, HX2.out.2.1, by go_num, HX2.out.1, HQ5.out, HO5.out, HF5.out⟩
     case measure => simp [intOf]; have := HX2.out; omega
    ·have hd2 : decide ((y : Int) >= 64) = false := by simp; omega
     have dl2 : ¬ (64 : Int) <= (y : Int) := by omega
     have HQI : Hid (q0 + i = M.length / 64 /\ y = M.length % 64) := by
      have h1 := HLD.out.1; have h2 := hxi.out; have h3 := HLL.out
      exact ⟨by omega, by omega⟩
     have hqf : wr.heap[hq]? = some (.cells (hashA t (blocksN M (M.length / 64)).list (.slice a2 L cap2) (n1 : Int)) 100 (0, 0)) := by
      have h := hqx.out; rw [HQI.out.1] at h; exact h
     have HQF := Lib.hid hqf;obtain ⟨T, hT⟩ : ∃ T, T = M.drop (64 * (M.length / 64)) := ⟨_, rfl⟩
     have HTD := Lib.hid hT;have hTl : T.length = y := by rw [hT, List.length_drop, HQI.out.2]; omega
     have HTL := Lib.hid hTl;have hTb : ∀ z ∈ T, z < 256 := fun z hz => HMK.out z (List.mem_of_mem_drop (by rw [hT] at hz; exact hz))
     have HTB := Lib.hid hTb;have HWS : Hid (w.heap.size <= wr.heap.size) := hfx.out.1.size
     have f9 := free_at hqf 9
     have s1 : (0 : Int) <= (x : Int) := by omega
     have s2 : (x : Int) <= (L : Int) := by omega
     have s3 : (x : Int) <= (cap2 : Int) := by have := HLC2.out; omega
     have s6 : L - x = y := hy.symm
     have ek : IntKind.i64.wrap ((k : Int) + 1) = (k : Int) + 1 := by have h1 := HK.out; have h2 := HPL.out; exact IntWalk.i64_in _ (by omega)
     have HYB : Hid (y <= 1000000) := by show _ <= _; omega
     have HBT : Hid (∀ g, a2 = some ⟨g, 0, none⟩ -> BytesAt wr (some ⟨g, x, none⟩) (cap2 - x) T) := by
      rintro g rfl
      refine ⟨hTb, fun h0 => ⟨g, x, rfl, by have := HLC2.out; omega, (hox.out.lt g rfl).2, fun j hj => ?_⟩⟩
      have hlen : (M.drop (64 * q0)).length = L := HL2.out
      rw [hox.out.cellAt (x + j) (by omega), Array.getElem?_toList, bA_get _ _ (by omega)]
      congr 3
      rw [hT, List.getD_eq_getElem?_getD, List.getD_eq_getElem?_getD, List.getElem?_drop, List.getElem?_drop]
      congr 2
      have := hxi.out; have := HQI.out.1; omega
     have HA2 : Hid (a2 = none \/ ∃ g, a2 = some ⟨g, 0, none⟩) := by
      rcases hox.out.2 with ⟨h, _⟩ | ⟨g, cap, cur, h, _⟩
      ·injection h with h _ _; exact .inl h
      ·injection h with h _ _; exact .inr ⟨g, h⟩
     clear hqf hT hTl hTb hy h64 hx hxl hqx hxi hox;rcases HA2.out with rfl | ⟨g, rfl⟩
     ·have hcp0 : cap2 = 0 := HN2.out rfl
      have hL0 : L = 0 := by have := HLC2.out; omega
      have hx0 : x = 0 := by omega
      have hy0 : y = 0 := by omega
      subst hcp0 hL0 hx0
      have c9n : wr.cell? ⟨hq, 9, none⟩ = some (.slice none 0 0) := c9
      go_wp2_with fail
      go_roundw
      case rel =>
       have nb5 := block_at HQF.out 9 (.slice none 0 0)
       rw [hash_rest] at nb5;refine ⟨k + 1, by have := HK.out; omega, by go_num, .slice none 0 0, ?_, ?_, ?_⟩
       ·rw [HE.out.1, HE.out.2, <- HN1.out]
        refine ⟨nb5, ?_⟩
        have ht0 : T = [] := List.length_eq_zero_iff.1 (HTL.out.trans hy0)
        rw [<- HQI.out.2, <- HTD.out, hy0, ht0]
        exact World.ownsRow_nil _ _ _ _
       ·exact hfx.out.setCell HB.out.1 _ _
       ·intro b hb; cases hb
      case measure => simp [intOf]; have := HK.out; omega
     ·by_cases hcx : cap2 = x
      ·have hy0 : y = 0 := by have := HLC2.out; omega
       have ht0 : T = [] := List.length_eq_zero_iff.1 (HTL.out.trans hy0)
       have HT9 : Hid (BytesAt wr (some ⟨g, 0, none⟩) 0 T) := by
        show BytesAt _ _ _ _
        rw [ht0];exact ⟨(fun x hx => by cases hx), (fun h => by cases h)⟩
       clear ht0 hy0;go_wp2_with (first
        | (refine wpList_append_bytes (v := .slice none 0 0) (base := wr.heap.size) (n := 0) (xs := []) (a := some ⟨g, 0, none⟩) (cap := 0) (l := T) rfl (.const (.slice none 0 0)) (.tmp 59) rfl rfl (World.ownsRow_nil _ _ _ _) rfl HTL.out HT9.out (fun h => by cases h) (by have := HYB.out; omega) (Nat.le_refl _) ?_; intro v5 w5 hown5 hgr5; rw [Nat.zero_add, List.nil_append] at hown5; obtain ⟨a5, cap5, hv5, hb5, hl5, hlc5, hcm5, hn5, hg5⟩ := own_bytes HTB.out hown5; have HOWN5 := Lib.hid hown5; have HGR5 := Lib.hid hgr5; have HQ5 : Hid (w5.heap[hq]? = some (.cells (hashA t (blocksN M (M.length / 64)).list (.slice (some ⟨g, 0, none⟩) L cap2) (n1 : Int)) 100 (0, 0))) := (hgr5.block hq (lt_of_block HQF.out) (by simp [Value.ownBlock])).trans HQF.out; have f9c := free_at HQ5.out 9; have c9c := (cells_at HQ5.out 9).trans (show _ = some (Value.slice (some ⟨g, 0, none⟩) L cap2) from rfl); subst hv5; clear hown5 hgr5 hb5 hl5 hlc5 hcm5 hn5 hg5)
        | fail)
       go_roundw
       case rel =>
        have nb5 := block_at HQ5.out 9 (.slice a5 y cap5)
        rw [hash_rest] at nb5;have hne5 := own_apart HOWN5.out HQ5.out (by decide)
        refine ⟨k + 1, by have := HK.out; omega, by go_num, .slice a5 y cap5, ?_, ?_, ?_⟩
        ·rw [HE.out.1, HE.out.2, <- HN1.out]
         refine ⟨nb5, ?_⟩
         rw [<- HQI.out.2, <- HTD.out]
         exact own_keepS (own_mono HOWN5.out (Nat.le_trans HB.out.2 HWS.out)) (fun k hk => Below.heap_setCell _ _ _ _ (by rintro rfl; exact hne5 hk))
        ·exact (hfx.out.grown (s := .slice none 0 0) HB.out.2 HGR5.out (fun k hk => by cases hk)).setCell HB.out.1 _ _
        ·intro b hb
         exact .inr (Nat.le_trans HWS.out (HOWN5.out.lt b hb).1)
       case measure => simp [intOf]; have := HK.out; omega
      ·have HT9 := Lib.hid (HBT.out g rfl)
       go_wp2_with (first
        | (refine wpList_append_bytes (v := .slice none 0 0) (base := wr.heap.size) (n := 0) (xs := []) (a := some ⟨g, x, none⟩) (cap := cap2 - x) (l := T) rfl (.const (.slice none 0 0)) (.tmp 59) rfl rfl (World.ownsRow_nil _ _ _ _) rfl HTL.out HT9.out (fun h => by cases h) (by have := HYB.out; omega) (Nat.le_refl _) ?_; intro v5 w5 hown5 hgr5; rw [Nat.zero_add, List.nil_append] at hown5; obtain ⟨a5, cap5, hv5, hb5, hl5, hlc5, hcm5, hn5, hg5⟩ := own_bytes HTB.out hown5; have HOWN5 := Lib.hid hown5; have HGR5 := Lib.hid hgr5; have HQ5 : Hid (w5.heap[hq]? = some (.cells (hashA t (blocksN M (M.length / 64)).list (.slice (some ⟨g, 0, none⟩) L cap2) (n1 : Int)) 100 (0, 0))) := (hgr5.block hq (lt_of_block HQF.out) (by simp [Value.ownBlock])).trans HQF.out; have f9c := free_at HQ5.out 9; have c9c := (cells_at HQ5.out 9).trans (show _ = some (Value.slice (some ⟨g, 0, none⟩) L cap2) from rfl); subst hv5; clear hown5 hgr5 hb5 hl5 hlc5 hcm5 hn5 hg5)
        | fail)
       go_roundw
       case rel =>
        have nb5 := block_at HQ5.out 9 (.slice a5 y cap5)
        rw [hash_rest] at nb5;have hne5 := own_apart HOWN5.out HQ5.out (by decide)
        refine ⟨k + 1, by have := HK.out; omega, by go_num, .slice a5 y cap5, ?_, ?_, ?_⟩
        ·rw [HE.out.1, HE.out.2, <- HN1.out]
         refine ⟨nb5, ?_⟩
         rw [<- HQI.out.2, <- HTD.out]
         exact own_keepS (own_mono HOWN5.out (Nat.le_trans HB.out.2 HWS.out)) (fun k hk => Below.heap_setCell _ _ _ _ (by rintro rfl; exact hne5 hk))
        ·exact (hfx.out.grown (s := .slice none 0 0) HB.out.2 HGR5.out (fun k hk => by cases hk)).setCell HB.out.1 _ _
        ·intro b hb
         exact .inr (Nat.le_trans HWS.out (HOWN5.out.lt b hb).1)
       case measure => simp [intOf]; have := HK.out; omega
  ·have hkl : k = P.length := by omega
   have hd : decide ((k : Int) < (P.length : Int)) = false := by simp; omega
   have HF : Hid (HS wr B hq t (m ++ catP P) rk (n + (catP P).length)) := by
    have h := hsk.out
    rw [hkl, List.take_length] at h
    exact h
   clear hsk hkl hk;go_wp2
   go_end0
   exact ⟨rfl, rk, HF.out, hfr.out⟩
theorem hwrite_c (B hq t : Nat) (m : List Nat) (r : Value) (n : Nat) (ps po pc : Nat) (P : Parts) (w : World) (hBq : B <= hq) (hBw : B <= w.heap.size) (hm : ∀ x ∈ m, x < 256)
  (hS : HS w B hq t m r n) (hT : w.heap[t]? = some (.cells (wA (KT ++ HL)) 64 (0, 0)))
  (hP : ∀ k s, P[k]? = some s -> w.cell? ⟨ps, po + k, none⟩ = some (.slice s.1 s.2.2.length s.2.1) /\ BytesAt w s.1 s.2.1 s.2.2 /\ (s.1 = none -> s.2.1 = 0) /\ ∀ g o, s.1 = some ⟨g, o, none⟩ -> g ≠ hq /\ r.ownBlock ≠ some g)
  (hps : ps ≠ hq /\ r.ownBlock ≠ some ps /\ ps < w.heap.size) (hPl : P.length <= 1000000) (hN : n + (catP P).length <= 1000000) (hM : m.length + (catP P).length <= 1000000) :
  Calls Tryz.prog 26 #[.pointer (some ⟨hq, 0, none⟩), .slice (some ⟨ps, po, none⟩) P.length pc] w fun e w' => e = .returned undef /\ ∃ r', HS w' B hq t (m ++ catP P) r' (n + (catP P).length) /\ Fr B hq r w w' :=
 hwrite2_c B hq t m r n ps po pc P w hBq hBw hm hS hT (fun k s h => let ⟨a, b, c, d⟩ := hP k s h; ⟨a, b, c, fun _ => d⟩) hps hPl hN hM
theorem still_load_mid {P : Program} {ops : Array Oper} {w : World} {Q : Act -> Prop} {a : Act} {op : Oper} {rest : List Oper} (ty : TypeId) (x : Operand) (ho : op.op = .load ty x) (b o : Nat) (cs : List Value) (d : TypeDesc)
  (hw : Region.wanted op (yielded ops a.tmps) = true) (hx : a.eval x = .pointer (some ⟨b, o, none⟩)) (hc : w.rangeAt b o cs) (hu : P.underlying ty = some d) (hd : d.isRow = true) (hi : (P.info? ty).map (·.size) = some cs.length)
  (h : wpStill P ops w Q rest (a.put op.dst (.agg cs.toArray))) : wpStill P ops w Q (op :: rest) a := by
 refine wpStill_step fun K hK => ?_
 rw [if_pos hw]
 unfold Oper.still execOp
 simp only [ho, hx, Instr.loadAt, Instr.sureAddr, Sem.run_bind, Sem.run_pure, Result.andThen_ok, run_loadVar_mid w b o ty cs d hc hu hd hi]
 exact ⟨rfl, hK _ h⟩
theorem padL_lt (n : Nat) : ∀ x ∈ padL n, x < 256 := by
 intro x hx;rw [padL_split] at hx;rcases List.mem_append.1 hx with h | h
 ·rcases List.mem_cons.1 h with h | h
  ·omega
  ·rw [(List.mem_replicate.1 h).2]; omega
 ·exact highB_lt _ _ x h
theorem padL_short (n : Nat) : (padL n).length <= 80 := by
 rw [padL_split]; simp [highB_len]; omega
theorem info32 : (Tryz.prog.info? 38).map (·.size) = some 32 := by kernel_rfl
theorem bA_oneS (l : List Nat) : (bA l).all (·.oneCell') = true := by
 rw [<- Array.all_toList]; simp [bA, Value.oneCell']
theorem out_len (S : St) : S.out.length = 32 := by simp [St.out, outW]
theorem out_part (S : St) (k : Nat) (h : k < 8) : (S.out.drop (4 * k)).take 4 = outW (S.list.getD k 0) := by
 rcases (by omega : k = 0 \/ k = 1 \/ k = 2 \/ k = 3 \/ k = 4 \/ k = 5 \/ k = 6 \/ k = 7) with rfl | rfl | rfl | rfl | rfl | rfl | rfl | rfl <;> rfl
theorem high4 (x : Nat) : highB 4 x = outW x := by
 simp [highB, upB, outW, List.range, List.range.loop]
theorem part_copy (L : List Nat) (q : Nat) (h : q + 4 <= L.length) (c : List Nat) (hc : c = (L.drop q).take 4) : splice ((partB L q).map fun (n : Nat) => Value.int .u8 (n : Int)) q (c.map fun (n : Nat) => Value.int .u8 (n : Int)) = (partB L (q + 4)).map fun (n : Nat) => Value.int .u8 (n : Int) := by
 have hcl : c.length = 4 := by rw [hc]; simp; omega
 unfold splice partB
 rw [List.length_map, hcl, <- List.map_take, <- List.map_drop, <- List.map_append, <- List.map_append]
 congr 1
 rw [List.take_append_of_le_length (by simp; omega), List.take_take, Nat.min_self, List.drop_append, List.length_take, Nat.min_eq_left (by omega), List.drop_of_length_le (by simp; omega), List.nil_append, List.drop_replicate, hc, List.take_add, List.append_assoc]
 congr 3
 omega
theorem index_s (S : St) (k : Nat) (hk : k < 8) (w : World) : (Instr.index 98 (.agg (wA S.list)) (.int .i64 (k : Int))).run Tryz.prog w = .ok (.int .u32 ((S.list.getD k 0 : Nat) : Int)) w := by
 rcases (by omega : k = 0 \/ k = 1 \/ k = 2 \/ k = 3 \/ k = 4 \/ k = 5 \/ k = 6 \/ k = 7) with rfl | rfl | rfl | rfl | rfl | rfl | rfl | rfl <;> rfl
theorem hsum_c (B hq t : Nat) (m : List Nat) (r : Value) (w : World) (hBq : B <= hq) (hBw : B <= w.heap.size) (hm : ∀ x ∈ m, x < 256) (hml : m.length <= 900000)
  (hS : HS w B hq t m r m.length) (hT : w.heap[t]? = some (.cells (wA (KT ++ HL)) 64 (0, 0))) :
  Calls Tryz.prog 27 #[.pointer (some ⟨hq, 0, none⟩)] w fun e w' => e = .returned (.agg (bA (sumN m))) /\ Below B w w' := by
 obtain ⟨ra, rc, hrv, _⟩ := own_bytes (fun x hx => hm x (List.mem_of_mem_drop hx)) hS.2
 obtain ⟨rl, hrl⟩ : ∃ rl, rl = m.length % 64 := ⟨_, rfl⟩
 rw [<- hrl] at hrv;clear hrl;subst hrv;have HSW := Lib.hid hS;have HTT := Lib.hid hT;have HB := Lib.hid (And.intro hBq hBw)
 have HMB := Lib.hid hm;have HML := Lib.hid hml;have HOK := Lib.hid (blocks_ok m (m.length / 64))
 obtain ⟨S0, hS0⟩ : ∃ S, S = blocksN m (m.length / 64) := ⟨_, rfl⟩
 rw [<- hS0] at HOK;have HS0 := Lib.hid hS0;have hq0 := hS.1
 rw [<- hS0] at hq0;obtain ⟨xa, xb, xc, xd, xe, xf, xg, xh⟩ := S0
 obtain ⟨n, hn⟩ : ∃ n, n = m.length := ⟨_, rfl⟩
 rw [<- hn] at hq0;have HNM := Lib.hid hn;have HQ0 : Hid (∀ w', Below w.heap.size w w' -> w'.heap[hq]? = some (.cells (hashA t [xa, xb, xc, xd, xe, xf, xg, xh] (.slice ra rl rc) (n : Int)) 100 (0, 0))) := fun w' h => (h.block hq (lt_of_block hq0)).trans hq0
 have HZ0 : Hid (((w.alloc (.cells #[.int .u8 0, .int .u8 0, .int .u8 0, .int .u8 0, .int .u8 0, .int .u8 0, .int .u8 0, .int .u8 0, .int .u8 0, .int .u8 0, .int .u8 0, .int .u8 0, .int .u8 0, .int .u8 0, .int .u8 0, .int .u8 0, .int .u8 0, .int .u8 0, .int .u8 0, .int .u8 0, .int .u8 0, .int .u8 0, .int .u8 0, .int .u8 0, .int .u8 0, .int .u8 0, .int .u8 0, .int .u8 0, .int .u8 0, .int .u8 0, .int .u8 0, .int .u8 0] 38)).alloc (.cells #[.int .u8 0, .int .u8 0, .int .u8 0, .int .u8 0, .int .u8 0, .int .u8 0, .int .u8 0, .int .u8 0, .int .u8 0, .int .u8 0, .int .u8 0, .int .u8 0, .int .u8 0, .int .u8 0, .int .u8 0, .int .u8 0, .int .u8 0, .int .u8 0, .int .u8 0, .int .u8 0, .int .u8 0, .int .u8 0, .int .u8 0, .int .u8 0, .int .u8 0, .int .u8 0, .int .u8 0, .int .u8 0, .int .u8 0, .int .u8 0, .int .u8 0, .int .u8 0] 38)).heap[w.heap.size]? = some (.cells (bA (List.replicate 32 0)) 38 (0, 0))) := by
  show _ = _; rw [heap_old' _ _ _ (by simp), heap_new']; rfl
 have HZ1 : Hid (((w.alloc (.cells #[.int .u8 0, .int .u8 0, .int .u8 0, .int .u8 0, .int .u8 0, .int .u8 0, .int .u8 0, .int .u8 0, .int .u8 0, .int .u8 0, .int .u8 0, .int .u8 0, .int .u8 0, .int .u8 0, .int .u8 0, .int .u8 0, .int .u8 0, .int .u8 0, .int .u8 0, .int .u8 0, .int .u8 0, .int .u8 0, .int .u8 0, .int .u8 0, .int .u8 0, .int .u8 0, .int .u8 0, .int .u8 0, .int .u8 0, .int .u8 0, .int .u8 0, .int .u8 0] 38)).alloc (.cells #[.int .u8 0, .int .u8 0, .int .u8 0, .int .u8 0, .int .u8 0, .int .u8 0, .int .u8 0, .int .u8 0, .int .u8 0, .int .u8 0, .int .u8 0, .int .u8 0, .int .u8 0, .int .u8 0, .int .u8 0, .int .u8 0, .int .u8 0, .int .u8 0, .int .u8 0, .int .u8 0, .int .u8 0, .int .u8 0, .int .u8 0, .int .u8 0, .int .u8 0, .int .u8 0, .int .u8 0, .int .u8 0, .int .u8 0, .int .u8 0, .int .u8 0, .int .u8 0] 38)).heap[w.heap.size + 1]? = some (.cells (bA (List.replicate 32 0)) 38 (0, 0))) := by
  show _ = _; rw [show w.heap.size + 1 = (w.alloc (.cells #[.int .u8 0, .int .u8 0, .int .u8 0, .int .u8 0, .int .u8 0, .int .u8 0, .int .u8 0, .int .u8 0, .int .u8 0, .int .u8 0, .int .u8 0, .int .u8 0, .int .u8 0, .int .u8 0, .int .u8 0, .int .u8 0, .int .u8 0, .int .u8 0, .int .u8 0, .int .u8 0, .int .u8 0, .int .u8 0, .int .u8 0, .int .u8 0, .int .u8 0, .int .u8 0, .int .u8 0, .int .u8 0, .int .u8 0, .int .u8 0, .int .u8 0, .int .u8 0] 38)).heap.size by simp, heap_new']; rfl
 have HBZ : Hid (Below w.heap.size w ((w.alloc (.cells #[.int .u8 0, .int .u8 0, .int .u8 0, .int .u8 0, .int .u8 0, .int .u8 0, .int .u8 0, .int .u8 0, .int .u8 0, .int .u8 0, .int .u8 0, .int .u8 0, .int .u8 0, .int .u8 0, .int .u8 0, .int .u8 0, .int .u8 0, .int .u8 0, .int .u8 0, .int .u8 0, .int .u8 0, .int .u8 0, .int .u8 0, .int .u8 0, .int .u8 0, .int .u8 0, .int .u8 0, .int .u8 0, .int .u8 0, .int .u8 0, .int .u8 0, .int .u8 0] 38)).alloc (.cells #[.int .u8 0, .int .u8 0, .int .u8 0, .int .u8 0, .int .u8 0, .int .u8 0, .int .u8 0, .int .u8 0, .int .u8 0, .int .u8 0, .int .u8 0, .int .u8 0, .int .u8 0, .int .u8 0, .int .u8 0, .int .u8 0, .int .u8 0, .int .u8 0, .int .u8 0, .int .u8 0, .int .u8 0, .int .u8 0, .int .u8 0, .int .u8 0, .int .u8 0, .int .u8 0, .int .u8 0, .int .u8 0, .int .u8 0, .int .u8 0, .int .u8 0, .int .u8 0] 38))) := ((Below.refl _ _).alloc (Nat.le_refl _) _).alloc (by simp) _
 clear hS hT hm hml hS0 hBq hBw hq0 hn
 go_enter Tryz.func27, Tryz.ntmps27
 go_wp2_with fail
 obtain ⟨W2, hW2⟩ : ∃ W2, W2 = ((w.alloc (.cells #[.int .u8 0, .int .u8 0, .int .u8 0, .int .u8 0, .int .u8 0, .int .u8 0, .int .u8 0, .int .u8 0, .int .u8 0, .int .u8 0, .int .u8 0, .int .u8 0, .int .u8 0, .int .u8 0, .int .u8 0, .int .u8 0, .int .u8 0, .int .u8 0, .int .u8 0, .int .u8 0, .int .u8 0, .int .u8 0, .int .u8 0, .int .u8 0, .int .u8 0, .int .u8 0, .int .u8 0, .int .u8 0, .int .u8 0, .int .u8 0, .int .u8 0, .int .u8 0] 38)).alloc (.cells #[.int .u8 0, .int .u8 0, .int .u8 0, .int .u8 0, .int .u8 0, .int .u8 0, .int .u8 0, .int .u8 0, .int .u8 0, .int .u8 0, .int .u8 0, .int .u8 0, .int .u8 0, .int .u8 0, .int .u8 0, .int .u8 0, .int .u8 0, .int .u8 0, .int .u8 0, .int .u8 0, .int .u8 0, .int .u8 0, .int .u8 0, .int .u8 0, .int .u8 0, .int .u8 0, .int .u8 0, .int .u8 0, .int .u8 0, .int .u8 0, .int .u8 0, .int .u8 0] 38)) := ⟨_, rfl⟩
 rw [<- hW2] at HZ0 HZ1 HBZ ⊢
 clear hW2;have HQ2 := Lib.hid (HQ0.out W2 HBZ.out)
 have HQ2s : Hid (W2.drew.rangeAt hq 1 [.int .u32 (xa : Int), .int .u32 (xb : Int), .int .u32 (xc : Int), .int .u32 (xd : Int), .int .u32 (xe : Int), .int .u32 (xf : Int), .int .u32 (xg : Int), .int .u32 (xh : Int)]) := hash_s t [xa, xb, xc, xd, xe, xf, xg, xh] (.slice ra rl rc) n W2 hq HQ2.out
 have c0 := (cells_at HQ2.out 0).trans (show _ = some (Value.pointer (some ⟨t, 0, none⟩)) from rfl)
 have c9 := (cells_at HQ2.out 9).trans (show _ = some (Value.slice ra rl rc) from rfl)
 have c10 := (cells_at HQ2.out 10).trans (show _ = some (Value.int .i64 (n : Int)) from rfl)
 have HE3 : Hid ((W2.alloc (.cells #[.pointer (some ⟨t, 0, none⟩), .int .u32 (xa : Int), .int .u32 (xb : Int), .int .u32 (xc : Int), .int .u32 (xd : Int), .int .u32 (xe : Int), .int .u32 (xf : Int), .int .u32 (xg : Int), .int .u32 (xh : Int), .slice ra rl rc, .int .i64 0] 100)).drew.heap[W2.heap.size]? = some (.cells (hashA t [xa, xb, xc, xd, xe, xf, xg, xh] (.slice ra rl rc) 0) 100 (0, 0))) := heap_new' _ _
 have HB3 : Hid (Below W2.heap.size W2 (W2.alloc (.cells #[.pointer (some ⟨t, 0, none⟩), .int .u32 (xa : Int), .int .u32 (xb : Int), .int .u32 (xc : Int), .int .u32 (xd : Int), .int .u32 (xe : Int), .int .u32 (xf : Int), .int .u32 (xg : Int), .int .u32 (xh : Int), .slice ra rl rc, .int .i64 0] 100)).drew) := ((Below.refl _ _).alloc (Nat.le_refl _) _).drew
 have c10 : (W2.alloc (.cells #[.pointer (some ⟨t, 0, none⟩), .int .u32 (xa : Int), .int .u32 (xb : Int), .int .u32 (xc : Int), .int .u32 (xd : Int), .int .u32 (xe : Int), .int .u32 (xf : Int), .int .u32 (xg : Int), .int .u32 (xh : Int), .slice ra rl rc, .int .i64 0] 100)).drew.cell? ⟨hq, 10, none⟩ = some (.int .i64 (n : Int)) := (HB3.out.cell (p := ⟨hq, 10, none⟩) (lt_of_block HQ2.out)).trans c10
 refine wp_region_still_tail 13 (by kernel_rfl) (by kernel_rfl) ?_
 simp only [List.take_succ_cons, List.take_zero, List.drop_succ_cons, List.drop_zero]
 change wpStill _ _ W2.drew _ _ _
 repeat (first
  | (refine still_load_mid 98 (.tmp 16) rfl hq 1 _ _ (by rfl) rfl HQ2s.out Tryz.underlying98 rfl (by rw [eight100]; rfl) ?_)
  | still_step)
 refine wpStill_nil ?_
 change wpList _ _ _ _ _ W2.drew
 go_wp2_with fail
 generalize (W2.alloc (.cells #[.pointer (some ⟨t, 0, none⟩), .int .u32 (xa : Int), .int .u32 (xb : Int), .int .u32 (xc : Int), .int .u32 (xd : Int), .int .u32 (xe : Int), .int .u32 (xf : Int), .int .u32 (xg : Int), .int .u32 (xh : Int), .slice ra rl rc, .int .i64 0] 100)).drew = W3 at *
 refine (pad_c n (by have := HNM.out; have := HML.out; omega) W3).mono ?_
 rintro e w4 ⟨v4, rfl, hown4, hb4⟩
 obtain ⟨pa, pc, rfl, hpb, hpl, hpc, hpm, hpn, hpg⟩ := own_bytes (padL_lt n) hown4
 have HBW4 : Hid (Below w.heap.size w w4) := (HBZ.out.trans (HB3.out.mono HBZ.out.size)).trans (hb4.mono (Nat.le_trans HBZ.out.size HB3.out.size))
 have HE4 := Lib.hid ((hb4.block _ (lt_of_block HE3.out)).trans HE3.out)
 have HZ04 := Lib.hid ((hb4.block _ (Nat.lt_of_lt_of_le (lt_of_block HZ0.out) HB3.out.size)).trans ((HB3.out.block _ (lt_of_block HZ0.out)).trans HZ0.out))
 have HZ14 := Lib.hid ((hb4.block _ (Nat.lt_of_lt_of_le (lt_of_block HZ1.out) HB3.out.size)).trans ((HB3.out.block _ (lt_of_block HZ1.out)).trans HZ1.out))
 have HEL : Hid (w.heap.size + 1 < W2.heap.size /\ W2.heap.size < W3.heap.size /\ W3.heap.size <= w4.heap.size) := ⟨lt_of_block HZ1.out, lt_of_block HE3.out, hb4.size⟩
 have HPB := Lib.hid hpb;have HPN := Lib.hid hpn;have HPG := Lib.hid hpg;clear hpb hpn hpg hpl hpc hpm hown4 hb4 HB3 HE3 HZ0 HZ1 HBZ HQ0 HQ2 HQ2s c0 c9 c10;generalize W2.heap.size = eb at *
 generalize W3.heap.size = s3 at *
 go_wp2_with fail
 have HW5 : Hid (HS (w4.alloc (.cells #[.slice pa (padL n).length pc] 22)) B eb t m (.slice ra rl rc) 0) := by
  refine ⟨?_, own_up (own_up HSW.out.2 HBW4.out) ((Below.refl _ _).alloc (Nat.le_refl _) _)⟩
  rw [heap_old' _ _ _ (lt_of_block HE4.out), HE4.out, <- HS0.out]; rfl
 have HBW5 : Hid (Below w.heap.size w (w4.alloc (.cells #[.slice pa (padL n).length pc] 22))) := HBW4.out.alloc HBW4.out.size _
 have hrb : ∀ g, (Value.slice ra rl rc).ownBlock = some g -> g < w.heap.size := fun g h => (HSW.out.2.lt g h).2
 refine (hwrite_c B eb t m (.slice ra rl rc) 0 w4.heap.size 0 1 [(pa, pc, padL n)] (w4.alloc (.cells #[.slice pa (padL n).length pc] 22)) (by have := HB.out.2; have := HEL.out; omega) (Nat.le_trans HB.out.2 HBW5.out.size) HMB.out HW5.out ((HBW5.out.block _ (lt_of_block HTT.out)).trans HTT.out) ?_ ⟨by have := lt_of_block HE4.out; omega, fun h => by have := hrb _ h; have := HBW4.out.size; omega, by simp⟩ (by simp) (by have := padL_short n; simp [catP]; omega) (by have := padL_short n; have := HML.out; simp [catP]; omega)).mono ?_
 ·intro k s hs
  have hk : k = 0 := by have := (List.getElem?_eq_some_iff.1 hs).1; simpa using this
  subst hk;simp at hs
  subst hs;refine ⟨(cells_at (heap_new' _ _) 0).trans rfl, HPB.out.up ((Below.refl _ _).alloc (Nat.le_refl _) _) (Nat.le_refl _), HPN.out, fun g o h => ?_⟩
  have h1 := (HPG.out g o none h).1
  have h2 := HEL.out
  exact ⟨by omega, fun h => by have := hrb _ h; omega⟩
 rintro e w6 ⟨rfl, r6, hs6, hf6⟩
 have hcat : catP [(pa, pc, padL n)] = padL n := by simp [catP]
 rw [hcat] at hs6;have HZ06 := Lib.hid ((hf6.2 w.heap.size (by have := HEL.out; simp; omega) (by have := HEL.out; omega) (fun h => by have := hrb _ h; omega)).trans ((heap_old' _ _ _ (lt_of_block HZ04.out)).trans HZ04.out))
 have HZ16 := Lib.hid ((hf6.2 (w.heap.size + 1) (by have := HEL.out; simp; omega) (by have := HEL.out; omega) (fun h => by have := hrb _ h; omega)).trans ((heap_old' _ _ _ (lt_of_block HZ14.out)).trans HZ14.out))
 have HB6 : Hid (Below B w w6) := (HBW5.out.mono HB.out.2).trans hf6.1
 obtain ⟨SF, hSF⟩ : ∃ SF, SF = blocksN (m ++ padL n) ((m ++ padL n).length / 64) := ⟨_, rfl⟩
 have HL : Hid (sumN m = SF.out) := by
  show _ = _
  rw [hSF, HNM.out, List.length_append]; rfl
 have HFO : Hid (St.ok SF) := by rw [hSF]; exact blocks_ok _ _
 have hh6 := hs6.1
 rw [<- hSF] at hh6;have HR6 := Lib.hid (hash_s t SF.list r6 _ w6 eb hh6)
 clear hs6 hf6 hSF hh6 hcat HZ04 HZ14 HE4 HBW4 HBW5 HW5 HPB HPN HPG;go_wp2_with (first
  | (refine wpList_load_mid rfl 98 (.tmp 34) rfl eb 1 rfl _ _ HR6.out Tryz.underlying98 rfl (by rw [eight100]; rfl) ?_)
  | fail)
 obtain ⟨N6, hN6⟩ : ∃ N : Nat, N = (m ++ padL n).length := ⟨_, rfl⟩
 go_loopw [36] (fun vi wx => ∃ k : Nat, k <= 8 /\ vi = .int .i64 (k : Int) /\ Hid (wx.heap[w.heap.size + 1]? = some (.cells (bA (partB SF.out (4 * k))) 38 (0, 0))) /\ Hid (wx.heap[w.heap.size]? = some (.cells (bA (List.replicate 32 0)) 38 (0, 0))) /\ Hid (Below B w wx) /\ Hid (w.heap.size <= wx.heap.size)) (fun vi _ => 8 - (intOf vi).toNat)
 case atStart => exact ⟨0, by omega, rfl, by show _ = _; rw [Nat.mul_zero, partB_zero, out_len]; exact HZ16.out, HZ06.out, HB6.out, HB6.out.size⟩
 case round =>
  clear HZ16 HZ06 HB6 HR6;obtain ⟨k, hk, rfl, hz1, hz0, hbel, hw7⟩ := hrel
  by_cases hlt : k < 8
  ·have hd : decide ((k : Int) < 8) = true := by simp; omega
   have dl : (k : Int) < 8 := by omega
   have hv := index_s SF k hlt
   have hxl := getD_w HFO.out k
   obtain ⟨x, hx⟩ : ∃ x, x = SF.list.getD k 0 := ⟨_, rfl⟩
   have HXO : Hid (outW x = (SF.out.drop (4 * k)).take 4) := by show _ = _; rw [hx, out_part SF k hlt]
   rw [<- hx] at hv hxl;have ex : IntKind.u64.wrap (x : Int) = (x : Int) := by rw [IntKind.wrap_u64]; omega
   obtain ⟨q, hq4⟩ : ∃ q, q = 4 * k := ⟨_, rfl⟩
   have HQ4 := Lib.hid hq4;rw [<- hq4] at hz1 HXO;have e4 : IntKind.i64.wrap (4 * (k : Int)) = (q : Int) := by rw [IntWalk.i64_in _ (by omega)]; omega
   have s1 : (0 : Int) <= (q : Int) := by omega
   have s2 : (q : Int) <= 32 := by omega
   have s3 : ¬ (32 : Nat) = q := by omega
   have s4 : ¬ q = 32 := by omega
   have hq28 : q <= 28 := by omega
   have HK := Lib.hid hlt;clear hx hq4 hk;go_wp2_with fail
   refine wp_region_held_drew (S := fun _ => True) (by kernel_rfl) trivial ?_
   intro hS;clear hS
   change wpAnyH _ _ _ _ _ 7 #[false, false, false, false, false, false, false] _ _
   refine wpAnyH_take (i := 0) (v := ?_) rfl (by kernel_rfl) (by kernel_rfl) (by kernel_rfl) (fun _ _ _ h => h) (Or.inl ⟨by rfl, ?hy⟩) trivial ?_
   case hy => intro w' hSw; go_simp; try with_reducible rfl
   simp only [gA, gS, gZ, Act.put, sA, sZ, sS]
   refine wpAnyH_take (i := 1) (v := ?_) rfl (by kernel_rfl) (by kernel_rfl) (by kernel_rfl) (fun _ _ _ h => h) (Or.inl ⟨by rfl, ?hy⟩) trivial ?_
   case hy => intro w' hSw; go_simp; try with_reducible rfl
   simp only [gA, gS, gZ, Act.put, sA, sZ, sS]
   refine wpAnyH_take (i := 2) (v := ?_) rfl (by kernel_rfl) (by kernel_rfl) (by kernel_rfl) (fun _ _ _ h => h) (Or.inl ⟨by rfl, ?hy⟩) trivial ?_
   case hy => intro w' hSw; go_simp; try with_reducible rfl
   simp only [gA, gS, gZ, Act.put, sA, sZ, sS]
   refine wpAnyH_take (i := 3) (v := ?_) rfl (by kernel_rfl) (by kernel_rfl) (by kernel_rfl) (fun _ _ _ h => h) (Or.inl ⟨by rfl, ?hy⟩) trivial ?_
   case hy => intro w' hSw; go_simp; try with_reducible rfl
   simp only [gA, gS, gZ, Act.put, sA, sZ, sS]
   refine wpAnyH_take (i := 4) (v := ?_) rfl (by kernel_rfl) (by kernel_rfl) (by kernel_rfl) (fun _ _ _ h => h) (Or.inl ⟨by rfl, ?hy⟩) trivial ?_
   case hy => intro w' hSw; go_simp; try with_reducible rfl
   simp only [gA, gS, gZ, Act.put, sA, sZ, sS]
   refine wpAnyH_ready (rs := [5]) (by kernel_rfl) (by simp) ?_
   refine AllReadyH.cons rfl (fun K hK => ?_) AllReadyH.nil
   rw [if_pos (by rfl)]
   go_simp
   refine (high_c 4 x (by omega) (by omega) (by omega) 4 (x : Int) rfl rfl wr.drew).mono ?_
   rintro e w7 ⟨b7, rfl, hb71, hb72, hbl7, hbe7⟩
   refine hK.out _ _ (trivial) (fun _ => ?_)
   clear hK K;simp only [gA, gS, gZ, Act.put, sA, sZ, sS]
   have hz7 : w7.heap[w.heap.size + 1]? = some (.cells ((partB SF.out q).map fun (n : Nat) => Value.int .u8 (n : Int)).toArray 38 (0, 0)) := (hbe7.block _ (lt_of_block hz1.out)).trans hz1.out
   have hy7 : w7.heap[w.heap.size]? = some (.cells (bA (List.replicate 32 0)) 38 (0, 0)) := (hbe7.block _ (lt_of_block hz0.out)).trans hz0.out
   have hB7 : Below B w w7 := (hbel.out.drew).trans (hbe7.mono (Nat.le_trans HB.out.2 hw7.out))
   refine wpAnyH_ready (rs := [6]) (by kernel_rfl) (by simp) ?_
   refine AllReadyH.cons rfl (fun K hK => ?_) AllReadyH.nil
   refine step_copy_splice rfl (.tmp 42) (.tmp 45) 22 22 rfl 5 Tryz.underlying22 (by kernel_rfl) _ _ (32 - q) (32 - q) 4 4 rfl rfl (w.heap.size + 1) q _ 38 hz7 ((highB 4 x).map fun (n : Nat) => Value.int .u8 (n : Int)) (by rw [List.length_map, highB_len]; show 4 = min 4 (32 - q); omega) (fun _ => ⟨rfl, _, rfl, fun j v hv => ?c1⟩) (by simp [highB_len, partB_len _ _ (show q <= SF.out.length by rw [out_len]; omega), out_len]; omega) (by simp [Value.oneCell']) (w.heap.size + 1) w7 (Below.refl _ _) (Nat.le_refl _) ?_
   case c1 => rw [add_plain, Nat.zero_add, cells_at hbl7 j]; simpa [bA] using hv
   intro w8 hg8 hb8;refine hK.out _ _ (trivial) (fun _ => ?_)
   clear hK K;simp only [gA, gS, gZ, Act.put, sA, sZ, sS]
   change wpAnyH _ _ _ _ _ 0 _ _ _
   refine wpAnyH_done (by kernel_rfl) ?_ _
   have HX : Hid (w8.heap[w.heap.size + 1]? = some (.cells (bA (partB SF.out (4 * (k + 1)))) 38 (0, 0))) := by
    show _ = _
    rw [hg8.out, show 4 * (k + 1) = q + 4 by have := HQ4.out; omega, part_copy SF.out q (by rw [out_len]; omega) (highB 4 x) (by rw [<- HXO.out]; exact high4 x)]
    rfl
   have HY : Hid (w8.heap[w.heap.size]? = some (.cells (bA (List.replicate 32 0)) 38 (0, 0))) := (hb8.block _ (by omega)).trans hy7
   have HBN : Hid (Below B w w8) := hB7.trans (hb8.mono (by have := HB.out.2; omega))
   clear hg8 hb8 hz7 hy7 hB7 hbl7 hbe7 hb71 hb72 hz1 hz0 hbel;go_wp2
   go_roundw
   case rel => exact ⟨k + 1, by have := HK.out; omega, by go_num, HX.out, HY.out, HBN.out, HBN.out.size⟩
   case measure => simp [intOf]; have := HK.out; omega
  ·have hk8 : k = 8 := by omega
   have hd : decide ((k : Int) < 8) = false := by simp; omega
   have HZ : Hid (wr.heap[w.heap.size + 1]? = some (.cells (bA (sumN m)) 38 (0, 0))) := by
    have h := hz1.out
    rw [hk8, show 4 * 8 = SF.out.length by rw [out_len], partB_full, <- HL.out] at h
    exact h
   have HLS : Hid ((sumN m).length = 32) := sum_len m
   clear hz1 hk8 hk hlt;go_wp2_with (first
    | (refine wpList_load_row rfl 38 (.tmp 3) rfl (w.heap.size + 1) rfl _ _ _ _ HZ.out Tryz.underlying38 rfl (by rw [info32, bA_size, HLS.out]) ?_)
    | (refine wpList_store_row rfl 38 (.tmp 2) (.tmp 48) rfl w.heap.size (bA (sumN m)) rfl rfl 38 _ hz0.out (by rw [info32, bA_size, HLS.out]) (by rw [bA_size, bA_size, HLS.out, List.length_replicate]) (bA_oneS _) ?_)
    | fail)
   exact bodyPost_ret (results_cell_row rfl _ _ w.heap.size 38 (bA (sumN m)) (0, 0) _ rfl (setRow_heap _ _ _ _ _ _ hz0.out) Tryz.underlying38 rfl (by rw [info32, bA_size, HLS.out])) rfl ⟨rfl, below_setRow hbel.out HB.out.2 _⟩
theorem tsum2_c (t ps po pc : Nat) (P : Parts) (w : World) (hT : w.heap[t]? = some (.cells (wA (KT ++ HL)) 64 (0, 0))) (hps : ps < w.heap.size)
  (hP : ∀ k s, P[k]? = some s -> w.cell? ⟨ps, po + k, none⟩ = some (.slice s.1 s.2.2.length s.2.1) /\ BytesAt w s.1 s.2.1 s.2.2 /\ (s.1 = none -> s.2.1 = 0))
  (hPl : P.length <= 1000000) (hM : (catP P).length <= 900000) :
  Calls Tryz.prog 12 #[.pointer (some ⟨t, 0, none⟩), .slice (some ⟨ps, po, none⟩) P.length pc] w fun e w' => e = .returned (.agg (bA (sumN (catP P)))) /\ Below w.heap.size w w' := by
 have HZ0 : Hid ((w.alloc (.cells #[.int .u8 0, .int .u8 0, .int .u8 0, .int .u8 0, .int .u8 0, .int .u8 0, .int .u8 0, .int .u8 0, .int .u8 0, .int .u8 0, .int .u8 0, .int .u8 0, .int .u8 0, .int .u8 0, .int .u8 0, .int .u8 0, .int .u8 0, .int .u8 0, .int .u8 0, .int .u8 0, .int .u8 0, .int .u8 0, .int .u8 0, .int .u8 0, .int .u8 0, .int .u8 0, .int .u8 0, .int .u8 0, .int .u8 0, .int .u8 0, .int .u8 0, .int .u8 0] 38)).heap[w.heap.size]? = some (.cells (bA (List.replicate 32 0)) 38 (0, 0))) := by
  show _ = _; rw [heap_new']; rfl
 have HB0 : Hid (Below w.heap.size w (w.alloc (.cells #[.int .u8 0, .int .u8 0, .int .u8 0, .int .u8 0, .int .u8 0, .int .u8 0, .int .u8 0, .int .u8 0, .int .u8 0, .int .u8 0, .int .u8 0, .int .u8 0, .int .u8 0, .int .u8 0, .int .u8 0, .int .u8 0, .int .u8 0, .int .u8 0, .int .u8 0, .int .u8 0, .int .u8 0, .int .u8 0, .int .u8 0, .int .u8 0, .int .u8 0, .int .u8 0, .int .u8 0, .int .u8 0, .int .u8 0, .int .u8 0, .int .u8 0, .int .u8 0] 38))) := (Below.refl _ _).alloc (Nat.le_refl _) _
 have HP := Lib.hid hP;have HTT := Lib.hid hT;have HPS := Lib.hid hps;have HM := Lib.hid hM;have HPL := Lib.hid hPl;clear hP hT hps hM hPl
 go_enter Tryz.func12, Tryz.ntmps12
 go_wp2_with fail
 refine (hnew_c t _ ((HB0.out.block _ (lt_of_block HTT.out)).trans HTT.out)).mono ?_
 rintro e w1 ⟨rfl, hh1, hb1⟩
 generalize w.alloc (.cells #[.int .u8 0, .int .u8 0, .int .u8 0, .int .u8 0, .int .u8 0, .int .u8 0, .int .u8 0, .int .u8 0, .int .u8 0, .int .u8 0, .int .u8 0, .int .u8 0, .int .u8 0, .int .u8 0, .int .u8 0, .int .u8 0, .int .u8 0, .int .u8 0, .int .u8 0, .int .u8 0, .int .u8 0, .int .u8 0, .int .u8 0, .int .u8 0, .int .u8 0, .int .u8 0, .int .u8 0, .int .u8 0, .int .u8 0, .int .u8 0, .int .u8 0, .int .u8 0] 38) = w0 at *
 have HBW1 : Hid (Below w.heap.size w w1) := HB0.out.trans (hb1.mono HB0.out.size)
 have HH1 := Lib.hid hh1;have HZ1 := Lib.hid ((hb1.block _ (lt_of_block HZ0.out)).trans HZ0.out)
 have HLT : Hid (w.heap.size < w0.heap.size /\ w0.heap.size < w1.heap.size) := ⟨lt_of_block HZ0.out, lt_of_block hh1⟩
 clear hh1 hb1 HB0 HZ0;generalize w0.heap.size = hq at *
 go_wp2_with fail
 have hS1 : HS w1 w.heap.size hq t [] (.slice none 0 0) 0 := ⟨HH1.out, World.ownsRow_nil _ _ _ _⟩
 refine (hwrite2_c w.heap.size hq t [] (.slice none 0 0) 0 ps po pc P w1 (by have := HLT.out; omega) HBW1.out.size (fun x hx => by cases hx) hS1 ((HBW1.out.block _ (lt_of_block HTT.out)).trans HTT.out) ?_ ⟨by have := HLT.out; have := HPS.out; omega, (fun h => by cases h), by have := HLT.out; have := HPS.out; omega⟩ HPL.out (by have := HM.out; omega) (by have := HM.out; simp; omega)).mono ?_
 ·intro k s hs
  obtain ⟨h1, h2, h3⟩ := HP.out k s hs
  exact ⟨(HBW1.out.cell (p := ⟨ps, po + k, none⟩) HPS.out).trans h1, h2.up HBW1.out (Nat.le_refl _), h3, fun h0 g o h => ⟨by obtain ⟨g', o', h5, _, h6, _⟩ := h2.2 h0; rw [h5] at h; injection h with h; injection h with h _ _; have := HLT.out; omega, fun h => by cases h⟩⟩
 rintro e w2 ⟨rfl, r2, hs2, hf2⟩
 rw [List.nil_append, Nat.zero_add] at hs2
 have HS2 := Lib.hid hs2;have HB2 : Hid (Below w.heap.size w w2) := HBW1.out.trans hf2.1
 have HZ2 := Lib.hid ((hf2.2 w.heap.size (by have := HLT.out; omega) (by have := HLT.out; omega) (fun h => by cases h)).trans HZ1.out)
 have HT2 := Lib.hid ((HB2.out.block _ (lt_of_block HTT.out)).trans HTT.out)
 clear hs2 hf2 hS1 HBW1 HH1 HZ1;go_wp2_with fail
 refine (hsum_c (w.heap.size + 1) hq t (catP P) r2 w2 (by have := HLT.out; omega) (Nat.lt_of_lt_of_le (lt_of_block HZ2.out) (Nat.le_refl _)) ?_ HM.out ?_ HT2.out).mono ?_
 ·intro x hx
  unfold catP at hx
  rw [List.mem_flatten] at hx;obtain ⟨l, hl, hx⟩ := hx
  rw [List.mem_map] at hl;obtain ⟨s, hs, rfl⟩ := hl
  obtain ⟨i, hi, he⟩ := List.getElem_of_mem hs
  exact (HP.out i s (by rw [List.getElem?_eq_getElem hi, he])).2.1.1 x hx
 ·refine ⟨HS2.out.1, HS2.out.2.1, ?_⟩
  rcases HS2.out.2.2 with h | ⟨g, cap, cur, h1, h2, h3, h4⟩
  ·exact .inl h
  ·refine .inr ⟨g, cap, cur, h1, ?_, h3, h4⟩
   rcases Nat.lt_or_eq_of_le h2 with h | h
   ·exact h
   ·exfalso
    rw [<- h, HZ2.out] at h3
    injection h3 with h3
    injection h3 with _ h3 _
    exact absurd h3 (by decide)
 rintro e w3 ⟨rfl, hb3⟩
 have HB3 : Hid (Below w.heap.size w w3) := HB2.out.trans (hb3.mono (Nat.le_succ _))
 have HZ3 := Lib.hid ((hb3.block _ (Nat.lt_succ_self _)).trans HZ2.out)
 have HLS : Hid ((sumN (catP P)).length = 32) := sum_len _
 clear hb3 HB2 HZ2 HS2 HT2;go_wp2_with (first
  | (refine wpList_store_row rfl 38 (.tmp 4) (.tmp 12) rfl w.heap.size (bA (sumN (catP P))) rfl rfl 38 _ HZ3.out (by rw [info32, bA_size, HLS.out]) (by rw [bA_size, bA_size, HLS.out, List.length_replicate]) (bA_oneS _) ?_)
  | fail)
 exact bodyPost_ret (results_cell_row rfl _ _ w.heap.size 38 (bA (sumN (catP P))) (0, 0) _ rfl (setRow_heap _ _ _ _ _ _ HZ3.out) Tryz.underlying38 rfl (by rw [info32, bA_size, HLS.out])) rfl ⟨rfl, below_setRow HB3.out (Nat.le_refl _) _⟩
theorem tsum_c (t ps po pc : Nat) (P : Parts) (w : World) (hT : w.heap[t]? = some (.cells (wA (KT ++ HL)) 64 (0, 0))) (hps : ps < w.heap.size)
  (hP : ∀ k s, P[k]? = some s -> w.cell? ⟨ps, po + k, none⟩ = some (.slice s.1 s.2.2.length s.2.1) /\ BytesAt w s.1 s.2.1 s.2.2 /\ (s.1 = none -> s.2.1 = 0) /\ ∀ g o, s.1 = some ⟨g, o, none⟩ -> g < w.heap.size)
  (hPl : P.length <= 1000000) (hM : (catP P).length <= 900000) :
  Calls Tryz.prog 12 #[.pointer (some ⟨t, 0, none⟩), .slice (some ⟨ps, po, none⟩) P.length pc] w fun e w' => e = .returned (.agg (bA (sumN (catP P)))) /\ Below w.heap.size w w' :=
 tsum2_c t ps po pc P w hT hps (fun k s h => let ⟨a, b, c, _⟩ := hP k s h; ⟨a, b, c⟩) hPl hM
def PartsIn (w : World) (ps po : Nat) (P : Parts) : Prop :=
 ps < w.heap.size /\ ∀ k s, P[k]? = some s -> w.cell? ⟨ps, po + k, none⟩ = some (.slice s.1 s.2.2.length s.2.1) /\ BytesAt w s.1 s.2.1 s.2.2 /\ 0 < s.2.2.length
theorem PartsIn.up {w w' : World} {ps po : Nat} {P : Parts} (h : PartsIn w ps po P) {B : Nat} (hb : Below B w w') (hB : w.heap.size <= B) : PartsIn w' ps po P := by
 refine ⟨Nat.lt_of_lt_of_le h.1 hb.size, fun k s hs => ?_⟩
 obtain ⟨h1, h2, h3⟩ := h.2 k s hs
 refine ⟨?_, h2.up hb hB, h3⟩
 rw [<- h1]; simp only [World.cell?, hb.block ps (Nat.lt_of_lt_of_le h.1 hB)]
theorem bA_apps (a b : List Nat) : (bA a).toList ++ (bA b).toList = (bA (a ++ b)).toList := by simp [bA]
theorem concatP_c (P : Parts) (ps po pc : Nat) (w : World) (hP : PartsIn w ps po P) (h0 : 0 < (catP P).length) (ht : (catP P).length <= 1000000) (hlen : P.length <= 4294967296) :
  Calls Tryz.prog 255 #[.slice (some ⟨ps, po, none⟩) P.length pc] w
   fun e w' => ∃ v, e = .returned v /\ w'.ownsRow w.heap.size 5 1 v (catP P).length (bA (catP P)).toList /\ Below w.heap.size w w' := by
 have HP := Lib.hid hP;clear hP
 go_enter Tryz.func255, Tryz.ntmps255
 go_wp2
 go_loop [3, 11] (fun vs vi => ∃ k n : Nat, k <= P.length /\ vi = .int .i64 k /\ vs = .int .i64 n /\ n <= (catP P).length /\ Hid (n = (catP (P.take k)).length)) (fun _ vi => P.length - (intOf vi).toNat)
 case atStart => exact ⟨0, 0, by omega, rfl, rfl, by omega, rfl⟩
 case round =>
  obtain ⟨k, n, hk, rfl, rfl, hn, hnt⟩ := hrel
  by_cases hlt : k < P.length
  ·obtain ⟨c0, _, _⟩ := HP.out.2 k P[k] (List.getElem?_eq_getElem hlt)
   have hsum := catP_succ P k hlt
   have hle := catP_le P (k + 1)
   rw [hsum, List.length_append] at hle
   obtain ⟨m, hm⟩ : ∃ m, m = (P[k]).2.2.length := ⟨_, rfl⟩
   obtain ⟨a, ha⟩ : ∃ a, a = (P[k]).1 := ⟨_, rfl⟩
   obtain ⟨cp, hcp⟩ : ∃ cp, cp = (P[k]).2.1 := ⟨_, rfl⟩
   have c1 : w.cell? ⟨ps, po + k, none⟩ = some (.slice a m cp) := by rw [c0, hm, ha, hcp]
   have hnm : n + m <= (catP P).length := by have := hnt.out; omega
   have HNM : Hid (n + m = (catP (P.take (k + 1))).length) := by have := hnt.out; show n + m = _; rw [hsum, List.length_append]; omega
   clear c0 hsum hle hnt hm ha hcp;have hneg : ¬ ((n : Int) + (m : Int) < 0) := by omega
   go_wp2
   go_round
   case rel => exact ⟨k + 1, n + m, by omega, by go_num, by go_num, hnm, HNM⟩
   case measure => simp [intOf]; omega
  ·obtain rfl : k = P.length := by omega
   obtain rfl : n = (catP P).length := by have := hnt.out; rw [List.take_length] at this; exact this
   clear hnt hk hlt;go_wp2_with (go_at_call 314; (with_reducible refine (grow_c _ h0 (by omega) _).mono ?_); rintro e w1 ⟨G, rfl, hown, hbel⟩)
   have hst : w1.ownsRow w.heap.size 5 1 (.slice (some ⟨w.heap.size, 0, none⟩) 0 G) (catP (P.take 0)).length (bA (catP (P.take 0))).toList := hown
   have HST := Lib.hid hst;have HBEL := Lib.hid hbel;clear hown hst hbel
   go_loopw [6, 27] (fun v vi wr => ∃ k : Nat, k <= P.length /\ vi = .int .i64 k /\ Hid (wr.ownsRow w.heap.size 5 1 v (catP (P.take k)).length (bA (catP (P.take k))).toList) /\ Hid (Below w.heap.size w wr)) (fun _ vi _ => P.length - (intOf vi).toNat)
   case atStart => exact ⟨0, by omega, rfl, HST, HBEL⟩
   case round =>
    clear HST HBEL;obtain ⟨k, hk, rfl, hown, hbel⟩ := hrel
    by_cases hlt : k < P.length
    ·obtain ⟨c0, hB0, hl0⟩ := (HP.out.up hbel.out (Nat.le_refl _)).2 k P[k] (List.getElem?_eq_getElem hlt)
     have hcat := catP_succ P k hlt
     have hle := catP_le P (k + 1)
     rw [hcat, List.length_append] at hle
     generalize hsg : P[k] = sg at *
     obtain ⟨a, cp, l⟩ := sg
     simp only at c0 hB0 hl0 hcat hle
     obtain ⟨m, hm⟩ : ∃ m, m = l.length := ⟨_, rfl⟩
     obtain ⟨t, ht'⟩ : ∃ t, t = (catP (P.take k)).length := ⟨_, rfl⟩
     rw [<- hm] at c0 hl0 hle;rw [<- ht'] at hle hown;have HB := Lib.hid hB0;have HM := Lib.hid hm;have HCAT := Lib.hid hcat;have HT := Lib.hid ht';have hnil : a = none -> cp = 0 := fun e => by
      obtain ⟨g, o, h, _⟩ := hB0.2 (by omega)
      rw [e] at h; cases h
     have HNL := Lib.hid hnil;have hwz := Lib.hid hbel.out.size
     have hnz : a ≠ none := fun e => by
      obtain ⟨g, o, h, _⟩ := hB0.2 (by omega)
      rw [e] at h; cases h
     obtain ⟨ad, rfl⟩ : ∃ ad, a = some ad := by cases a with
      | none => exact absurd rfl hnz
      | some ad => exact ⟨ad, rfl⟩
     clear hB0 hm hcat hnil hnz ht';have hbound : t + m <= 1000000 := by omega
     go_wp2_with (at_builtin; refine wpList_append_bytes (base := w.heap.size) (n := t) (m := m) (l := l) rfl (.tmp 31) (.tmp 32) rfl rfl hown.out rfl HM.out.symm HB.out (fun e => by cases e) hbound hwz.out ?_)
     intro v' w2 hown' hgrow
     have R1 : Hid (w2.ownsRow w.heap.size 5 1 v' (catP (P.take (k + 1))).length (bA (catP (P.take (k + 1)))).toList) := by
      rw [HCAT.out, List.length_append, <- HT.out, <- HM.out, <- bA_apps]; exact hown'
     have R2 := Lib.hid (hbel.out.grown hgrow hwz.out (own_base hown.out))
     clear hown' hgrow hown hbel;go_wp2
     go_roundw
     case rel => exact ⟨k + 1, by omega, by go_num, R1, R2⟩
     case measure => simp [intOf]; omega
    ·obtain rfl : k = P.length := by omega
     have R : Hid (wr.ownsRow w.heap.size 5 1 u6 (catP P).length (bA (catP P)).toList) := by
      have := hown.out; rw [List.take_length] at this; exact this
     clear hown;go_wp2
     go_ret
     exact ⟨_, rfl, R.out, hbel.out⟩
theorem equalB_c (a1 a2 : Option Addr) (c1 c2 n1 n2 : Nat) (l1 l2 : List Nat) (e1 : l1.length = n1) (e2 : l2.length = n2) (w : World) (h1 : BytesAt w a1 c1 l1) (h2 : BytesAt w a2 c2 l2) :
  Calls Tryz.prog 13 #[.slice a1 n1 c1, .slice a2 n2 c2] w fun e w' => e = .returned (.bool (decide (l1 = l2))) /\ w = w' := by
 have H1 := Lib.hid h1;have H2 := Lib.hid h2;have HE := Lib.hid e1;have HE2 := Lib.hid e2;have HLT := Lib.hid (And.intro h1.1 h2.1)
 clear h1 h2 e1 e2
 go_enter Tryz.func13, Tryz.ntmps13
 go_wp2_with (first
  | (refine wpList_conv rfl (.tmp 5) HE.out H1.out rfl rfl ?_)
  | (refine wpList_conv rfl (.tmp 7) HE2.out H2.out rfl rfl ?_)
  | (refine wpList_eqs rfl (.tmp 6) (.tmp 8) 9 l1 l2 HLT.out.1 HLT.out.2 rfl rfl rfl ?_)
  | fail)
 go_ret
 exact ⟨rfl, rfl⟩
end Go.Proofs.YtnmdjggdgakeoaaGreat
namespace Go.Proofs.YtnmdjggdgakeoaaGreat
open Go Go.RowKit Sha
def lowB (n v : Nat) : List Nat := (List.range n).map fun k => upB v k
theorem lowB_len (n v : Nat) : (lowB n v).length = n := by simp [lowB]
theorem lowB_get (n v k : Nat) (h : k < n) : (lowB n v).getD k 0 = upB v k := by simp [lowB, h]
theorem lowB_lt (n v : Nat) : ∀ x ∈ lowB n v, x < 256 := by
 intro x hx;simp only [lowB, List.mem_map] at hx
 obtain ⟨k, _, rfl⟩ := hx
 exact Nat.mod_lt _ (by decide)
theorem lbytes_c (n v : Nat) (hv : v < 18446744073709551616) (h1 : 1 <= n) (hn : n <= 8) (w : World) :
  Calls Tryz.prog 57 #[.agg #[.int .i64 (n : Int), .int .u64 (v : Int)], .func (.func 78) #[.agg #[.int .i64 (n : Int), .int .u64 (v : Int)]] #[]] w
   fun e w' => ∃ b, e = .returned (.slice (some ⟨b, 0, none⟩) n n) /\ w.heap.size <= b /\ b < w'.heap.size /\ w'.heap[b]? = some (.cells (bA (lowB n v)) 5 (0, 0)) /\ Below w.heap.size w w' := by
 have hmk := mk_bytes n (by omega)
 have hlo : ¬ (n : Int) < 1 := by omega
 have hhi : ¬ (8 : Int) < n := by omega
 have hl := lowB_len n v
 have hs : ∀ o : Obj, ((w.alloc o).alloc (.cells (bA (List.replicate n 0)) 5)).heap[w.heap.size + 1]? = some (.cells (bA (partB (lowB n v) 0)) 5 (0, 0)) := fun o => by
  rw [partB_zero, hl, show w.heap.size + 1 = (w.alloc o).heap.size by simp, heap_new']
 have HS := Lib.hid hs;have HL := Lib.hid hl;clear hs hl
 go_enter Tryz.func57, Tryz.ntmps57
 go_wp2
 go_loopw [20] (fun vi wr => ∃ k : Nat, k <= n /\ vi = .int .i64 k /\ Hid (wr.heap[w.heap.size + 1]? = some (.cells (bA (partB (lowB n v) k)) 5 (0, 0))) /\ w.heap.size + 1 < wr.heap.size /\ Below w.heap.size w wr) (fun vi _ => n - (intOf vi).toNat)
 case atStart => exact ⟨0, by omega, rfl, HS.out _, by simp, (((Below.refl _ _).alloc (Nat.le_refl _) _).alloc (by simp) _)⟩
 case round =>
  obtain ⟨k, hk, rfl, hb, hz, hbel⟩ := hrel
  clear HS hmk
  by_cases hlt : k < n
  ·go_wp2_with (go_at_call 78; (with_reducible refine (up_c n v k hv (by omega) _ rfl _).mono ?_); rintro e w1 ⟨rfl, hb1⟩; have hB1 := (hb1.block (w.heap.size + 1) hz).trans hb.out; have hc1 := (cells_at hB1 k).trans (bA_get _ k (by rw [partB_len _ _ (by rw [HL.out]; omega), HL.out]; exact hlt)); have hf1 := free_at hB1 k; have HB1 := Lib.hid hB1; clear hB1)
   go_roundw
   case rel =>
    have h1 := block_at HB1.out k (.int .u8 ((upB v k : Nat) : Int))
    rw [bA_set, <- lowB_get n v k hlt, partB_set _ _ (by rw [HL.out]; exact hlt)] at h1
    rw [lowB_get n v k hlt] at h1
    exact ⟨k + 1, by omega, by go_num, h1, by have := hb1.size; simp [World.setCell]; omega, (hbel.trans (hb1.mono (by omega))).setCell (by simp) _⟩
   case measure => simp [intOf]; omega
  ·obtain rfl : k = n := by omega
   have h1 := hb.out
   have h2 := partB_full (lowB k v)
   rw [HL.out] at h2;rw [h2] at h1;have H1 := Lib.hid h1;clear hb h1 h2;go_wp2
   go_ret
   exact ⟨_, rfl, by omega, hz, H1.out, hbel⟩
theorem put_c (n v : Nat) (hv : v < 18446744073709551616) (h1 : 1 <= n) (hn : n <= 8) (N V : Int) (hN : N = n) (hV : V = v) (w : World) :
  Calls Tryz.prog 256 #[.int .i64 N, .int .u64 V] w
   fun e w' => ∃ b, e = .returned (.slice (some ⟨b, 0, none⟩) n n) /\ w.heap.size <= b /\ b < w'.heap.size /\ w'.heap[b]? = some (.cells (bA (lowB n v)) 5 (0, 0)) /\ Below w.heap.size w w' := by
 subst hN hV
 go_enter Tryz.func256, Tryz.ntmps256
 go_wp2_with fail
 refine (lbytes_c n v hv h1 hn _).mono ?_
 rintro e w1 ⟨b, rfl, hb, hz, hB, hbel⟩
 have HB := Lib.hid hB;clear hB;go_wp2
 go_ret
 exact ⟨b, rfl, by simp at hb; omega, hz, HB.out, ((Below.refl _ _).alloc (Nat.le_refl _) _).trans (hbel.mono (by simp))⟩
def SlAt (w : World) (v : Value) (l : List Nat) : Prop := ∃ a cap, v = .slice a l.length cap /\ BytesAt w a cap l /\ (a = none -> cap = 0) /\ l.length <= cap /\ cap <= maxLen
def RowsAt (w : World) (a : Option Addr) (L : List (List Nat)) : Prop := ∀ (i : Nat) (l : List Nat), L[i]? = some l -> ∃ g o v, a = some ⟨g, o, none⟩ /\ g < w.heap.size /\ w.cell? ⟨g, o + i, none⟩ = some v /\ SlAt w v l
theorem SlAt.up {w w' : World} {v : Value} {l : List Nat} (h : SlAt w v l) {B : Nat} (hb : Below B w w') (hB : w.heap.size <= B) : SlAt w' v l := by
 obtain ⟨a, cap, h1, h2, h3⟩ := h
 exact ⟨a, cap, h1, h2.up hb hB, h3⟩
theorem RowsAt.up {w w' : World} {a : Option Addr} {L : List (List Nat)} (h : RowsAt w a L) {B : Nat} (hb : Below B w w') (hB : w.heap.size <= B) : RowsAt w' a L := by
 intro i l hl;obtain ⟨g, o, v, h1, h2, h3, h4⟩ := h i l hl
 exact ⟨g, o, v, h1, Nat.lt_of_lt_of_le h2 hb.size, (hb.cell (p := ⟨g, o + i, none⟩) (Nat.lt_of_lt_of_le h2 hB)).trans h3, h4.up hb hB⟩
open Go.ChangeShapes Go.WideShapes
theorem cSl : Tryz.prog.cellsOf 22 = 1 := by kernel_rfl
theorem cU8 : Tryz.prog.cellsOf 5 = 1 := by kernel_rfl
theorem add_plainR (g o j : Nat) : (⟨g, o, none⟩ : Addr).add j = ⟨g, o + j, none⟩ := by
 unfold Addr.add; split
 ·next h => subst h; rfl
 ·rfl
theorem spotless {w : World} {g o : Nat} {sp : Option Nat} {v : Value} (h : w.cell? ⟨g, o, sp⟩ = some v) : sp = none /\ g < w.heap.size := by
 unfold World.cell? at h
 split at h
 ·rename_i hh
  refine ⟨?_, lt_of_block hh⟩
  cases sp with
  | none => rfl
  | some x => simp at h
 ·cases h
theorem slAt_row {w : World} {a : Option Addr} {len cap : Nat} {zs : List Int} (h : IsRow .u8 w a len cap zs) : ∃ l, SlAt w (.slice a len cap) l := by
 obtain ⟨l, hl, hb, hr⟩ := rowIn h
 refine ⟨l, ?_⟩
 rcases hr with ⟨hv, rfl⟩ | ⟨g, o, c, sp, hv, hlc, hcm, h0, hc⟩
 ·injection hv with h1 h2 h3
  subst h1 h2 h3
  exact ⟨none, 0, rfl, ⟨hb, (fun h => by cases h)⟩, (fun _ => rfl), Nat.le_refl _, Nat.zero_le _⟩
 ·injection hv with h1 h2 h3
  subst h1 h2 h3
  refine ⟨_, cap, rfl, ⟨hb, fun hp => ?_⟩, (fun h => by cases h), hlc, hcm⟩
  obtain ⟨rfl, hg⟩ := h0 hp
  exact ⟨g, o, rfl, hlc, hg, hc⟩
theorem open_rowsB {H : Type} {enc : TypeId × Value -> H} {W W' : World} {base b0 : Nat} {held : Bool} {r : Reach} {v : Value} {d : DataW H} {ps : List MemPlace}
  (hval : Value.okWide Tryz.prog W' r b0 23 v) (hd : DataW.Trod enc Tryz.prog W base (fun _ => true) held 23 v d ps) : ∃ a len cap L, v = .slice a len cap /\ L.length = len /\ len <= maxLen /\ RowsAt W a L := by
 obtain ⟨a, len, cap, rfl⟩ := okWide_slice Tryz.underlying23 hval
 obtain ⟨fuel, hf⟩ := hd
 simp only [Value.cells] at hf
 rcases DataW.trod_slice Tryz.underlying23 hf with ⟨hcs, _⟩ | ⟨p, len', cap', elems, rest, n', _, hcs, _, hb, hlc, hcm, hlen, hel, _⟩
 ·simp at hcs
  obtain ⟨rfl, rfl, rfl⟩ := hcs
  exact ⟨none, 0, 0, [], rfl, rfl, Nat.zero_le _, (fun i l h => by cases h)⟩
 ·simp at hcs
  obtain ⟨rfl, rfl, rfl⟩ := hcs
  have key : ∀ i, i < len -> ∃ l : List Nat, ∃ g o v, some p = some ⟨g, o, none⟩ /\ g < W.heap.size /\ W.cell? ⟨g, o + i, none⟩ = some v /\ SlAt W v l := by
   intro i hi;have hp : p.spot = none /\ p.block < W.heap.size := by
    have h0 := hel 0 (by omega)
    rw [List.getElem?_eq_getElem (by omega), cSl] at h0
    obtain ⟨cs, h1, h2⟩ := Option.bind_eq_some_iff.1 h0
    obtain ⟨_, hl1, hc⟩ := World.cells?_some h1
    have hc0 := hc 0 (by omega)
    rw [List.getElem?_eq_getElem (by omega)] at hc0
    simp only [Addr.add, Nat.zero_mul, if_true] at hc0
    obtain ⟨g, o, sp⟩ := p
    exact spotless hc0
   obtain ⟨g, o, sp⟩ := p
   obtain ⟨hp, hg⟩ := hp
   simp only at hp hg
   subst hp;have h0 := hel i hi
   rw [List.getElem?_eq_getElem (by omega), cSl, Nat.mul_one, add_plainR] at h0
   obtain ⟨cs, h1, h2⟩ := Option.bind_eq_some_iff.1 h0
   obtain ⟨_, hl1, hc⟩ := World.cells?_some h1
   have g0 := hc 0 (by omega)
   rw [add_plainR, Nat.add_zero] at g0
   rcases open_ints Tryz.underlying22 Tryz.underlying5 cU8 h2 with ⟨hcs, _⟩ | ⟨q, l, c, zs, hcs, _, hll, hm, hz, _, hcell, hwz⟩
   ·rw [hcs] at g0
    obtain ⟨l, hs⟩ := slAt_row (w := W) (.inl ⟨rfl, rfl, rfl, rfl⟩ : IsRow .u8 W none 0 0 [])
    exact ⟨l, g, o, _, rfl, hg, g0, hs⟩
   ·rw [hcs] at g0
    obtain ⟨l, hs⟩ := slAt_row (w := W) (.inr ⟨_, rfl, hll, hm, by simpa using hz, hcell, hwz⟩ : IsRow .u8 W (some q) l c zs)
    exact ⟨l, g, o, _, rfl, hg, g0, hs⟩
  have hex : ∃ f : Nat -> List Nat, ∀ i, i < len -> ∃ g o v, some p = some ⟨g, o, none⟩ /\ g < W.heap.size /\ W.cell? ⟨g, o + i, none⟩ = some v /\ SlAt W v (f i) := by
   refine ⟨fun i => if h : i < len then (key i h).choose else [], fun i hi => ?_⟩
   simp only [hi, dif_pos]
   exact (key i hi).choose_spec
  obtain ⟨f, hf2⟩ := hex
  refine ⟨some p, len, cap, (List.range len).map f, rfl, by simp, Nat.le_trans hlc hcm, fun i l hl => ?_⟩
  have hi : i < len := by
   have := (List.getElem?_eq_some_iff.1 hl).1; simpa using this
  rw [List.getElem?_eq_getElem (by simpa using hi)] at hl
  simp at hl
  rw [<- hl];exact hf2 i hi
end Go.Proofs.YtnmdjggdgakeoaaGreat
