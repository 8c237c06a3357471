/- The walk of the law PackBit. -/
import Derived.Test.YthpglpnonecnfaaPkH
import Derived.Test.YthpglpnonecnfaaRShaD
import Derived.Test.YthpglpnonecnfaaPkOpen
import Derived.Test.YthpglpnonecnfaaPkE2
set_option linter.unusedVariables false
set_option linter.unusedSimpArgs false
namespace Go.Proofs.Ythpglpnonecnfaa
open Go Go.RowKit Sha
theorem bytes_take (L : List (List Nat)) (R : List Int) : (packBytes L R).take ((packBytes L R).length - 32) = packBody L R ∧ (packBytes L R).drop ((packBytes L R).length - 32) = sumN (packBody L R) := by
  have hl : (packBytes L R).length - 32 = (packBody L R).length := by unfold packBytes; rw [List.length_append, sum_len]; omega
  rw [hl]
  unfold packBytes
  exact ⟨List.take_left, List.drop_left⟩
theorem bit_law {L L' : List (List Nat)} {R R' : List Int} {B c : List Nat} (hB : B = packBytes L R) (i x : Nat) (hi : i < B.length) (hx : x ≠ B.getD i 0) (hc : c = B.set i x) (hp : c = packBytes L' R') (h32 : 32 ≤ B.length) :
    B.take (B.length - 32) ≠ c.take (c.length - 32) ∧ sumN (B.take (B.length - 32)) = sumN (c.take (c.length - 32)) := by
  have hcl : c.length = B.length := by rw [hc, List.length_set]
  have t1 := bytes_take L R
  rw [← hB] at t1
  have t2 := bytes_take L' R'
  rw [← hp, hcl] at t2
  rw [hcl]
  have hne : B ≠ c := by
    intro e
    have h1 : c.getD i 0 = x := by rw [hc, List.getD_eq_getElem?_getD, List.getElem?_set_self hi]; rfl
    rw [← e] at h1
    exact hx h1.symm
  by_cases hlt : i < B.length - 32
  · have hd : c.drop (B.length - 32) = B.drop (B.length - 32) := by rw [hc, List.drop_set_of_lt hlt]
    refine ⟨fun e => ?_, ?_⟩
    · apply hne
      rw [← List.take_append_drop (B.length - 32) B, ← List.take_append_drop (B.length - 32) c, e, hd]
    · rw [t1.1, t2.1, ← t1.2, ← t2.2, hd]
  · exfalso
    have ht : c.take (B.length - 32) = B.take (B.length - 32) := by rw [hc, List.take_set_of_le (by omega)]
    apply hne
    rw [← List.take_append_drop (B.length - 32) B, ← List.take_append_drop (B.length - 32) c, t1.2, t2.2, ht, ← t1.1, ← t2.1, ht]
theorem own_some {w : World} {base : Nat} {v : Value} {n : Nat} {xs : List Value} {e : TypeId} {size : Nat} (h : w.ownsRow base e size v n xs) (hn : 0 < n) : ∃ g cap, v = .slice (some ⟨g, 0, none⟩) n cap ∧ base ≤ g ∧ g < w.heap.size := by
  rcases h.2 with ⟨_, h2⟩ | ⟨g, cap, cur, rfl, h3, h4, _⟩
  · omega
  · exact ⟨g, cap, rfl, h3, lt_of_block h4⟩
theorem and7 (n : Nat) (h : n < 256) : bits BinOp.and IntKind.u8 (n : Int) 7 = ((n % 8 : Nat) : Int) := by
  have e : IntKind.u8.bits = 8 := rfl
  have hn : n % 2 ^ 8 = n := Nat.mod_eq_of_lt h
  have h7 : n &&& 7 = n % 8 := by rw [show (7 : Nat) = 2 ^ 3 - 1 from rfl, Nat.and_two_pow_sub_one_eq_mod]
  have h2 := BitVec.toNat_and (BitVec.ofNat 8 n) (BitVec.ofNat 8 7)
  rw [show (7 : Int) = ((7 : Nat) : Int) from rfl]
  simp only [bits, e, BitVec.ofInt_natCast, BitVec.toNat_and, BitVec.toNat_ofNat, hn]
  rw [show (7 % 2 ^ 8 : Nat) = 7 from rfl, h7, IntKind.wrap_u8]
  omega
theorem xor_ne (x k : Nat) : x ^^^ 2 ^ k ≠ x := by
  intro h
  have h2 := congrArg (fun z => x ^^^ z) h
  simp only [← Nat.xor_assoc, Nat.xor_self, Nat.zero_xor] at h2
  exact absurd h2 (Nat.ne_of_gt (Nat.pow_pos (by decide)))
theorem pow_lt8 (k : Nat) (h : k < 8) : 2 ^ k < 256 := by
  rcases (by omega : k = 0 ∨ k = 1 ∨ k = 2 ∨ k = 3 ∨ k = 4 ∨ k = 5 ∨ k = 6 ∨ k = 7) with rfl | rfl | rfl | rfl | rfl | rfl | rfl | rfl <;> decide
theorem xor_lt8 (x k : Nat) (hx : x < 256) (h : k < 8) : x ^^^ 2 ^ k < 256 := Nat.xor_lt_two_pow (n := 8) hx (pow_lt8 k h)
theorem xor_bit (x k : Nat) (hx : x < 256) (h : k < 8) : bits BinOp.xor IntKind.u8 (x : Int) (2 ^ k % 256) = ((x ^^^ 2 ^ k : Nat) : Int) := by
  refine u8x rfl ?_ hx (pow_lt8 k h)
  rcases (by omega : k = 0 ∨ k = 1 ∨ k = 2 ∨ k = 3 ∨ k = 4 ∨ k = 5 ∨ k = 6 ∨ k = 7) with rfl | rfl | rfl | rfl | rfl | rfl | rfl | rfl <;> decide
theorem parse_len {b : List Nat} {L : List (List Nat)} {R : List Int} (h : parseN b = some (L, R)) : R.length = 16 := by
  unfold parseN at h
  split at h
  · cases h; exact rootsS_len _
  · cases h
theorem bytes_takeM {w : World} {a : Option Addr} {cap : Nat} {l : List Nat} (h : BytesAt w a cap l) (m : Nat) : BytesAt w a cap (l.take m) := by
  refine ⟨fun x hx => h.1 x (List.mem_of_mem_take hx), fun h0 => ?_⟩
  have hl : (l.take m).length ≤ l.length := by rw [List.length_take]; omega
  obtain ⟨g, o, h1, h2, h3, h4⟩ := h.2 (by omega)
  refine ⟨g, o, h1, by omega, h3, fun j hj => ?_⟩
  rw [h4 j (by omega), List.getD_eq_getElem?_getD, List.getD_eq_getElem?_getD, List.getElem?_take_of_lt (by rw [List.length_take] at hj; omega)]
theorem u8plainP : Try.prog.plainKey 5 = true := by kernel_rfl
theorem u8cellsP : Try.prog.cellsOf 5 = 1 := by kernel_rfl
theorem sum_eql (l : List Nat) (h : l.length = 32) (w : World) : (binOp .eql 31 (.agg (bA l)) (.agg (bA l))).run Try.prog w = .ok (.bool true) w := by
  obtain ⟨i0, hi, _⟩ := info_parts u8info
  have h2 := eql_bytes Try.prog 32 31 5 i0 Try.underlying31 Try.underlying5 u8plainP hi u8cellsP l l h h w
  rw [h2]; simp
theorem rowsB_le (L : List (List Nat)) (m : Nat) (h : ∀ l ∈ L, l.length ≤ m) : (rowsB L).length ≤ L.length * (m + 2) := by
  unfold rowsB
  induction L with
  | nil => simp
  | cons l L ih =>
    rw [List.flatMap_cons, List.length_append, List.length_append, lowB_len, List.length_cons, Nat.succ_mul]
    have h1 := ih (fun l' h' => h l' (List.mem_cons_of_mem _ h'))
    have h2 := h l (List.mem_cons_self ..)
    omega
theorem run_neqs (l m : List Nat) (hl : ∀ x ∈ l, x < 256) (hm : ∀ x ∈ m, x < 256) (E : Operand → Value) (x y : Operand) (t : TypeId) (o : Oper) (ho : o.op = .binOp .neq 9 x y t) (hx : E x = strV l) (hy : E y = strV m) (w : World) :
    (execOp E o).run Try.prog w = .ok (.value (.bool (!decide (l = m)))) w := by
  have key : (l.map UInt8.ofNat == m.map UInt8.ofNat) = decide (l = m) := by
    by_cases h : l = m
    · subst h; simp
    · have hne : l.map UInt8.ofNat ≠ m.map UInt8.ofNat := fun h' => h (strV_inj hl hm h')
      simp [h, hne]
  unfold execOp
  simp only [ho, hx, hy]
  unfold strV
  go_simp
theorem wpList_neqs {w : World} {ops : Array Oper} {rest : List Oper} {o : Oper} {A : Act} {Q : Exit → Act → World → Prop} (hgd : o.guard = none) (x y : Operand) (t : TypeId) (l m : List Nat) (hl : ∀ x ∈ l, x < 256) (hm : ∀ x ∈ m, x < 256) (ho : o.op = .binOp .neq 9 x y t)
    (hx : A.eval x = strV l) (hy : A.eval y = strV m) (hK : wpList Try.prog ops Q rest (A.put o.dst (.bool (!decide (l = m)))) w) : wpList Try.prog ops Q (o :: rest) A w :=
  wpList_plain hgd fun _ hk => by
    unfold Oper.wp
    rw [run_neqs l m hl hm A.eval x y t o ho hx hy w]
    exact hk _ _ hK
set_option maxRecDepth 100000 in
set_option maxHeartbeats 8000000 in
theorem walkPackBit (W : World) (a : Option Addr) (n cap : Nat) (L : List (List Nat)) (R : List Int) (hl : L.length = n) (hr : R.length = 16) (hw : ∀ r ∈ R, (Lit.int .i64 r).wf = true) (hrows : RowsAt W a L) (at_ : Int) (wat : (Lit.int .i64 at_).wf = true) (bit : Int) (wbit : (Lit.int .u8 bit).wf = true) :
    Calls Try.prog 4 #[.agg (packA (.slice a n cap) R), .int .i64 at_, .int .u8 bit] W fun e W' => e = .returned (.bool true) ∧ Below W.heap.size W W' := by
  have HB0 : Hid ((W.alloc (.cells (packA (.slice a n cap) R) 25)).heap[W.heap.size]? = some (.cells (packA (.slice a n cap) R) 25 (0, 0))) := heap_new' _ _
  have HE0 : Hid (Below W.heap.size W (W.alloc (.cells (packA (.slice a n cap) R) 25))) := (Below.refl _ _).alloc (Nat.le_refl _) _
  have HPS : Hid (∀ (a : Option Addr) (n c : Nat), (packA (.slice a n c) R).size = 17) := fun a n c => by rw [pack_size, hr]
  have HR := Lib.hid hrows
  have HL := Lib.hid hl
  have H16 := Lib.hid hr
  have HAT := Lib.hid wat
  have HBIT := Lib.hid wbit
  clear hrows hl hw hr wat wbit
  go_enter Try.func4, Try.ntmps4
  go_wp2_with (first
    | (refine wpList_load_row rfl 25 (.tmp 3) rfl W.heap.size rfl _ _ _ _ HB0.out Try.underlying25 rfl (by rw [pack25, HPS.out]) ?_)
    | fail)
  generalize W.alloc (.cells (packA (.slice a n cap) R) 25) = w0 at *
  have HLT0 := Lib.hid (lt_of_block HB0.out)
  refine (cut2_c W a n cap L R HL.out H16.out w0 HE0.out HR.out).mono ?_
  rintro e w1 ⟨⟨a1, c1, xs1, rfl, hown1, hrv1⟩, hb1⟩
  have HB1 := Lib.hid ((hb1.block _ (lt_of_block HB0.out)).trans HB0.out)
  have HE1 : Hid (Below W.heap.size W w1) := HE0.out.trans (hb1.mono HE0.out.size)
  have HR1 : Hid (∀ w', (∀ g, g ≠ W.heap.size → w'.heap[g]? = w1.heap[g]?) → Below W.heap.size W w' → RowsAt w' a1 (cutL L)) := fun w' he hb => (rowsAt_of (own_keep hown1.out (fun g h => he g (by have := (hown1.out.lt g h).1; have := HLT0.out; omega))) (hrv1.out.up hb (Nat.le_refl _))).2
  have HCL : Hid ((cutL L).length ≤ 12 ∧ ∀ l ∈ cutL L, l.length ≤ 900) := by
    unfold cutL
    refine ⟨by simp; omega, fun l hl => ?_⟩
    rw [List.mem_map] at hl
    obtain ⟨m, _, rfl⟩ := hl
    simp; omega
  obtain ⟨n1, hn1⟩ : ∃ n1, n1 = (cutL L).length := ⟨_, rfl⟩
  rw [← hn1]
  have HN1 := Lib.hid hn1
  obtain ⟨CL, hCL⟩ : ∃ CL, CL = cutL L := ⟨_, rfl⟩
  rw [← hCL] at HR1 HCL HN1
  clear hown1 hrv1 hb1 hn1 hCL HR HL HE0 HB0
  go_wp2_with (first
    | (refine wpList_store_row rfl 25 (.tmp 3) (.tmp 15) rfl W.heap.size (packA (.slice a1 n1 c1) R) rfl rfl 25 _ HB1.out (by rw [pack25, HPS.out]) (by rw [HPS.out, HPS.out]) (packA_one _ _ _ _) ?_; generalize hW2 : World.setRow _ _ _ = w2; have HB2 : Hid (w2.heap[W.heap.size]? = some (.cells (packA (.slice a1 n1 c1) R) 25 (0, 0))) := (by rw [← hW2]; exact setRow_heap _ _ _ _ _ _ HB1.out); have HE2 : Hid (Below W.heap.size W w2) := (by rw [← hW2]; exact below_setRow HE1.out (Nat.le_refl _) _); have HR2 : Hid (RowsAt w2 a1 CL) := HR1.out w2 (fun g hg => by rw [← hW2]; exact setRow_other _ _ _ _ hg) HE2.out; clear hW2)
    | (refine wpList_load_row rfl 25 (.tmp 3) rfl W.heap.size rfl _ _ _ _ HB2.out Try.underlying25 rfl (by rw [pack25, HPS.out]) ?_)
    | fail)
  refine (ours_c a1 n1 c1 CL R HN1.out.symm (by have := HCL.out.1; have := HN1.out; omega) (fun l h => by have := HCL.out.2 l h; omega) H16.out w2 HR2.out).mono ?_
  rintro e w3 ⟨⟨a3, c3, rfl, hrows3⟩, hb3⟩
  have HR3 := Lib.hid hrows3
  have HE3 : Hid (Below W.heap.size W w3) := HE2.out.trans (hb3.mono HE2.out.size)
  clear hrows3 hb3 HR1 HB1 HE1
  have HBL : Hid (mayP CL R = true → (packBody CL R).length ≤ 20000) := fun _ => by
    have h1 := rowsB_le CL 900 HCL.out.2
    have h2 := nums_len R
    have h3 : (packBody CL R).length = 6 + (numsB R).length + (rowsB CL).length := by unfold packBody headB; simp [lowB_len]; omega
    have h4 := HCL.out.1
    have h5 := H16.out
    have h6 : CL.length * 902 ≤ 12 * 902 := Nat.mul_le_mul_right _ h4
    omega
  go_wp2_with fail
  refine (pbytes_c a3 n1 c3 CL R HN1.out.symm (by have := HCL.out.1; have := HN1.out; omega) H16.out (fun h => by have := HBL.out h; omega) w3 HR3.out).mono ?_
  rintro e w4 ⟨⟨v4, rfl, hnil4, hown4⟩, hb4⟩
  have HE4 : Hid (Below W.heap.size W w4) := HE3.out.trans (hb4.mono HE3.out.size)
  have HRL := Lib.hid (rowsAt_lt HR3.out)
  clear hb4 HR3 HR2 HB2
  by_cases hmay : mayP CL R = true
  · have hown := hown4 hmay
    have HBL2 := Lib.hid (HBL.out hmay)
    rw [hmay, show errB true = 0 from rfl]
    clear hown4 hnil4 HBL
    by_cases hat : at_ < 0
    · have d1 : decide (at_ < 0) = true := by simpa using hat
      clear hown hmay
      go_wp2_with fail
      refine (awake36_c w4).mono ?_
      rintro e w5 ⟨rfl, hb5⟩
      go_wp2
      go_ret
      exact ⟨rfl, HE4.out.trans (hb5.mono HE4.out.size)⟩
    · have d1 : decide (at_ < 0) = false := by simpa using hat
      obtain ⟨B, hB⟩ : ∃ B, B = packBytes CL R := ⟨_, rfl⟩
      rw [← hB] at hown
      have HBD := Lib.hid hB
      have HBB : Hid (∀ x ∈ B, x < 256) := by rw [hB]; exact packBytes_lt HRL.out
      obtain ⟨N, hN⟩ : ∃ N, N = B.length := ⟨_, rfl⟩
      have HNB : Hid (B.length = N ∧ 70 ≤ N ∧ N ≤ 20100) := by
        have e : B.length = (packBody CL R).length + 32 := by rw [hB]; unfold packBytes; rw [List.length_append, sum_len]
        have e2 : 38 ≤ (packBody CL R).length := by
          have h2 := nums_len R
          have h3 : (packBody CL R).length = 6 + (numsB R).length + (rowsB CL).length := by unfold packBody headB; simp [lowB_len]; omega
          have h5 := H16.out
          omega
        have := HBL2.out
        exact ⟨hN.symm, by omega, by omega⟩
      rw [← hN] at hown
      have HOWN := Lib.hid hown
      obtain ⟨q, hq⟩ : ∃ q : Nat, (q : Int) = at_ := ⟨at_.toNat, by omega⟩
      subst hq
      obtain ⟨a4, c4, hv4, hb4, hl4, hc4, _, hnl4, _⟩ := own_bytes HBB.out hown
      have hN0 : 0 < N := by have := HNB.out; omega
      subst hv4
      have HB4 := Lib.hid hb4
      have HN4 := Lib.hid hnl4
      have HC4 := Lib.hid hc4
      have d33 : decide ((N : Int) < 33) = false := by have := HNB.out; simp; omega
      have n33 : ¬ (N : Int) < 33 := by have := HNB.out; omega
      have n33b : ¬ N < 33 := by have := HNB.out; omega
      have HBA : Hid (BytesAt (w4.alloc (.cells #[] 5)) a4 c4 B) := hb4.up ((Below.refl _ _).alloc (Nat.le_refl _) _) (Nat.le_refl _)
      have HOW0 : Hid ((w4.alloc (.cells #[] 5)).ownsRow w4.heap.size 5 1 (.slice (some ⟨w4.heap.size, 0, none⟩) 0 0) 0 []) := own_none0 (Nat.le_refl _)
      have HNL := Lib.hid HNB.out.1
      obtain ⟨x, hx⟩ : ∃ x, x = B.getD (q % N) 0 := ⟨_, rfl⟩
      have HX := Lib.hid hx
      have hx256 : x < 256 := by rw [hx]; exact getD_lt HBB.out _
      have HCELL : Hid (∀ (w5 : World) (g5 c5 : Nat), w5.ownsRow w4.heap.size 5 1 (.slice (some ⟨g5, 0, none⟩) N c5) N (bA B).toList → w5.cell? ⟨g5, q % N, none⟩ = some (.int .u8 (x : Int))) := fun w5 g5 c5 h => by
        rw [h.cellAt (q % N) (by have := Nat.mod_lt q hN0; omega), Array.getElem?_toList, bA_get _ _ (by rw [HNB.out.1]; exact Nat.mod_lt q hN0), hx]
      have hbit : 0 ≤ bit ∧ bit < 256 := by
        have := HBIT.out
        simp [Lit.wf, IntKind.min, IntKind.max, IntKind.signed, IntKind.bits] at this
        omega
      obtain ⟨bt, hbt⟩ : ∃ bt : Nat, (bt : Int) = bit := ⟨bit.toNat, by omega⟩
      subst hbt
      obtain ⟨kb, hkb⟩ : ∃ kb, kb = bt % 8 := ⟨_, rfl⟩
      have ea : bits BinOp.and IntKind.u8 (bt : Int) 7 = (kb : Int) := by
        rw [hkb, and7 bt (by omega)]
      have hkb8 : kb < 8 := by omega
      have m1 : ((q : Int) % (N : Int)) < (N : Int) := Int.emod_lt_of_pos _ (by omega)
      have m2 : ¬ ((q : Int) % (N : Int)) < 0 := by have := Int.emod_nonneg (q : Int) (show (N : Int) ≠ 0 by omega); omega
      have m2b : 0 ≤ ((q : Int) % (N : Int)) := Int.emod_nonneg (q : Int) (show (N : Int) ≠ 0 by omega)
      have m3 : q % N < N := Nat.mod_lt q hN0
      have hxe := xor_bit x kb hx256 hkb8
      obtain ⟨y, hy⟩ : ∃ y, y = x ^^^ 2 ^ kb := ⟨_, rfl⟩
      rw [← hy] at hxe
      have HY : Hid (y ≠ x ∧ y < 256) := by rw [hy]; exact ⟨xor_ne x kb, xor_lt8 x kb hx256 hkb8⟩
      clear hy hx hbit hkb hN hown hb4 hl4 hc4 hnl4 hmay hat hB
      go_wp2_with (first
        | (refine wpList_append_bytes (v := .slice (some ⟨w4.heap.size, 0, none⟩) 0 0) (base := w4.heap.size) (n := 0) (xs := []) (l := B) rfl (.tmp 32) (.tmp 33) rfl rfl HOW0.out rfl HNL.out HBA.out HN4.out (by have := HNB.out; omega) (by simp) ?_; intro v5 w5 hown5 hgr5; rw [Nat.zero_add, List.nil_append] at hown5; obtain ⟨g5, c5, hv5, hg5, hlt5⟩ := own_some hown5 hN0; have HOWN5 := Lib.hid hown5; have HE5 : Hid (Below w4.heap.size w4 w5) := ((Below.refl _ _).alloc (Nat.le_refl _) _).grown hgr5 (by simp) (fun k h => by simp [Value.ownBlock] at h; omega); subst hv5; have hcv := HCELL.out w5 g5 c5 HOWN5.out; have hfr := HOWN5.out.frozenAt (q % N); clear hown5 hgr5)
        | fail)
      obtain ⟨C, hC⟩ : ∃ C, C = B.set (q % N) y := ⟨_, rfl⟩
      have HCD := Lib.hid hC
      have HCB : Hid (∀ z ∈ C, z < 256) := by
        intro z hz
        rw [hC] at hz
        rcases List.mem_or_eq_of_mem_set hz with h | h
        · exact HBB.out z h
        · rw [h]; exact HY.out.2
      have HCN : Hid (C.length = N) := by rw [hC, List.length_set]; exact HNB.out.1
      have HO6 : Hid ((w5.setCell ⟨g5, q % N, none⟩ (.int .u8 (y : Int))).ownsRow w4.heap.size 5 1 (.slice (some ⟨g5, 0, none⟩) N c5) N (bA C).toList) := by
        have h := (HOWN5.out.stored (q % N) (.int .u8 (y : Int))).1
        rw [hC]
        have e : (bA B).toList.set (q % N) (.int .u8 (y : Int)) = (bA (B.set (q % N) y)).toList := by simp [bA, List.map_set]
        rw [← e]; exact h
      have HE6 : Hid (Below w4.heap.size w4 (w5.setCell ⟨g5, q % N, none⟩ (.int .u8 (y : Int)))) := HE5.out.setCell (by exact hg5) _
      clear hC hcv hfr hxe ea m1 m2 m2b
      generalize w5.setCell ⟨g5, q % N, none⟩ (.int .u8 (y : Int)) = w6 at *
      have HS6 : Hid (SlAt w6 (.slice (some ⟨g5, 0, none⟩) N c5) C) := by
        obtain ⟨aa, cc, hvv, hbb, _, h4, h5, h6, _⟩ := own_bytes HCB.out HO6.out
        injection hvv with e1 _ e2
        subst e1 e2
        exact ⟨_, c5, by rw [HCN.out], hbb, h6, by rw [HCN.out]; exact h4, h5⟩
      refine (parse_c _ C (by have := HCN.out; have := HNB.out; omega) w6 HS6.out).mono ?_
      rintro e w7 ⟨hpr, hb7⟩
      have HE7 : Hid (Below w4.heap.size w4 w7) := HE6.out.trans (hb7.mono HE6.out.size)
      have HO7 := Lib.hid (own_up HO6.out hb7)
      clear hb7 HS6 HO6 HE6
      have HBS7 : Hid (BytesAt w7 a4 c4 B) := HB4.out.up HE7.out (Nat.le_refl _)
      unfold ParseRes at hpr
      have HZ8 : Hid ((w7.alloc (.cells #[.slice none 0 0, .int .i64 0, .int .i64 0, .int .i64 0, .int .i64 0, .int .i64 0, .int .i64 0, .int .i64 0, .int .i64 0, .int .i64 0, .int .i64 0, .int .i64 0, .int .i64 0, .int .i64 0, .int .i64 0, .int .i64 0, .int .i64 0] 33)).heap[w7.heap.size]? = some (.cells #[.slice none 0 0, .int .i64 0, .int .i64 0, .int .i64 0, .int .i64 0, .int .i64 0, .int .i64 0, .int .i64 0, .int .i64 0, .int .i64 0, .int .i64 0, .int .i64 0, .int .i64 0, .int .i64 0, .int .i64 0, .int .i64 0, .int .i64 0] 33 (0, 0))) := heap_new' _ _
      have en32 : IntKind.i64.wrap ((N : Int) - 32) = ((N - 32 : Nat) : Int) := by have := HNB.out; rw [IntWalk.i64_in _ (by omega)]; omega
      obtain ⟨M, hM⟩ : ∃ M, M = N - 32 := ⟨_, rfl⟩
      rw [← hM] at en32
      have HMD := Lib.hid hM
      have hm0 : (0 : Int) ≤ (M : Int) := by omega
      have hm4 : (M : Int) ≤ (c4 : Int) := by have := HC4.out; have := HNB.out; omega
      have hc5 : N ≤ c5 := by
        rcases HO7.out.2 with ⟨h, _⟩ | ⟨_, _, _, h, _, _, h2, _⟩
        · cases h
        · injection h with _ _ h; subst h; exact h2
      have hm5 : (M : Int) ≤ (c5 : Int) := by omega
      obtain ⟨g4, o4, ha4, _⟩ := HBS7.out.2 (by have := HNB.out; omega)
      subst ha4
      clear hM hc5
      cases hpn : parseN C with
      | none =>
        rw [hpn] at hpr
        simp only at hpr
        subst hpr
        clear hpn
        go_wp2_with (first
          | (refine wpList_store_row rfl 33 (.tmp 10) (.tmp 50) rfl w7.heap.size #[.slice none 0 0, .int .i64 0, .int .i64 0, .int .i64 0, .int .i64 0, .int .i64 0, .int .i64 0, .int .i64 0, .int .i64 0, .int .i64 0, .int .i64 0, .int .i64 0, .int .i64 0, .int .i64 0, .int .i64 0, .int .i64 0, .int .i64 0] rfl rfl 33 _ HZ8.out (by rw [pack33]; rfl) (by rfl) zp_one ?_; generalize hW9 : World.setRow _ _ _ = w9; have HE9 : Hid (Below w7.heap.size w7 w9) := (by rw [← hW9]; exact below_setRow ((Below.refl _ _).alloc (Nat.le_refl _) _) (Nat.le_refl _) _); clear hW9)
          | fail)
        go_quiet (fail)
        go_wp2_with fail
        refine (awake36_c _).mono ?_
        rintro e w10 ⟨rfl, hb10⟩
        go_wp2
        go_ret
        exact ⟨rfl, HE4.out.trans ((HE7.out.trans ((below_drewN HE9.out nq).mono HE7.out.size)).mono HE4.out.size |>.trans (hb10.mono (by have h1 := HE4.out.size; have h2 := HE7.out.size; have h3 := HE9.out.size; simp; omega)))⟩
      | some LR =>
        obtain ⟨L', R'⟩ := LR
        rw [hpn] at hpr
        obtain ⟨a9, c9, rfl, _⟩ := hpr
        have hpb := (parse_bytes hpn).1
        have hpl := parse_len hpn
        obtain ⟨hne, hsum⟩ := bit_law HBD.out (q % N) y (by rw [HNB.out.1]; exact m3) (by rw [← HX.out]; exact HY.out.1) HCD.out hpb (by have := HNB.out; omega)
        rw [HNB.out.1, HCN.out, ← HMD.out] at hne hsum
        obtain ⟨n9, hn9⟩ : ∃ n9, n9 = L'.length := ⟨_, rfl⟩
        rw [← hn9]
        have HPS9 : Hid ((packA (.slice a9 n9 c9) R').size = 17) := by show _ = _; rw [pack_size, hpl]
        obtain ⟨XB, hXB⟩ : ∃ X, X = B.take M := ⟨_, rfl⟩
        obtain ⟨YC, hYC⟩ : ∃ X, X = C.take M := ⟨_, rfl⟩
        rw [← hXB, ← hYC] at hne hsum
        have HXL : Hid (XB.length = M ∧ YC.length = M ∧ M ≤ 30000) := by
          have h1 := HNB.out; have h2 := HCN.out; have h3 := HMD.out
          exact ⟨by rw [hXB, List.length_take]; omega, by rw [hYC, List.length_take]; omega, by omega⟩
        have HXB : Hid (BytesAt w7 (some ⟨g4, o4, none⟩) c4 XB) := by rw [hXB]; exact bytes_takeM HBS7.out M
        have HYB : Hid (BytesAt w7 (some ⟨g5, 0, none⟩) c5 YC) := by
          obtain ⟨aa, cc, hvv, hbb, _⟩ := own_bytes HCB.out HO7.out
          injection hvv with e1 _ e2
          subst e1 e2
          rw [hYC]; exact bytes_takeM hbb M
        have HNE := Lib.hid hne
        have hSE : sumN XB = sumN YC := hsum
        obtain ⟨SX, hSX⟩ : ∃ S, S = sumN XB := ⟨_, rfl⟩
        have HSX := Lib.hid hSX
        have HSY : Hid (SX = sumN YC) := hSX.trans hSE
        have heqa := fun w : World => sum_eql SX (by rw [hSX]; exact sum_len _) w
        clear hpn hpb hpl hne hsum hn9 hXB hYC hSE hSX m3
        go_wp2_with (first
          | (refine wpList_store_row rfl 33 (.tmp 10) (.tmp 50) rfl w7.heap.size (packA (.slice a9 n9 c9) R') rfl rfl 33 _ HZ8.out (by rw [pack33, HPS9.out]) (by rw [HPS9.out]; rfl) (packA_one _ _ _ _) ?_; generalize hW9 : World.setRow _ _ _ = w9; have HE9 : Hid (Below w7.heap.size w7 w9) := (by rw [← hW9]; exact below_setRow ((Below.refl _ _).alloc (Nat.le_refl _) _) (Nat.le_refl _) _); clear hW9)
          | fail)
        go_quiet (fail)
        have HEX : Hid (Below w7.heap.size w7 (w9.drewN nq)) := below_drewN HE9.out nq
        generalize w9.drewN nq = wx at *
        have HXX := Lib.hid (HXB.out.up HEX.out (Nat.le_refl _))
        have HYX := Lib.hid (HYB.out.up HEX.out (Nat.le_refl _))
        have hdn : decide (XB = YC) = false := decide_eq_false HNE.out
        go_wp2_with (first
          | (refine wpList_conv rfl (.tmp 64) HXL.out.1 HXX.out rfl rfl ?_)
          | (refine wpList_conv rfl (.tmp 66) HXL.out.2.1 HYX.out rfl rfl ?_)
          | (refine wpList_neqs rfl (.tmp 65) (.tmp 67) 9 XB YC HXX.out.1 HYX.out.1 rfl rfl rfl ?_; rw [hdn])
          | fail)
        refine (rsum_c (some ⟨g4, o4, none⟩) c4 M XB HXL.out.1 (by have := HXL.out.2.2; omega) wx HXX.out (fun h => by cases h)).mono ?_
        rintro e w10 ⟨rfl, hb10⟩
        rw [← HSX.out]
        have HYZ := Lib.hid (HYX.out.up hb10 (Nat.le_refl _))
        have HE10 := Lib.hid hb10
        clear hb10
        go_wp2_with fail
        refine (rsum_c (some ⟨g5, 0, none⟩) c5 M YC HXL.out.2.1 (by have := HXL.out.2.2; omega) w10 HYZ.out (fun h => by cases h)).mono ?_
        rintro e w11 ⟨rfl, hb11⟩
        rw [← HSY.out]
        have HE11 : Hid (Below w4.heap.size w4 w11) := (HE7.out.trans (HEX.out.mono HE7.out.size)).trans ((HE10.out.mono (by have h1 := HE7.out.size; have h2 := HEX.out.size; omega)).trans (hb11.mono (by have h1 := HE7.out.size; have h2 := HEX.out.size; have h3 := HE10.out.size; omega)))
        clear hb11
        go_wp2
        go_ret
        exact ⟨rfl, HE4.out.trans (HE11.out.mono HE4.out.size)⟩
  · have hmf : mayP CL R = false := by simpa using hmay
    rw [hmf, show errB false = 1 from rfl]
    clear hown4 hnil4 hmay hmf HBL
    go_wp2_with fail
    refine (awake36_c w4).mono ?_
    rintro e w5 ⟨rfl, hb5⟩
    go_wp2
    go_ret
    exact ⟨rfl, HE4.out.trans (hb5.mono HE4.out.size)⟩
end Go.Proofs.Ythpglpnonecnfaa
