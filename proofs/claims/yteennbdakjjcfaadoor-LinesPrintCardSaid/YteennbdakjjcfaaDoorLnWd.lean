/- The program's word, Line. Printed by gen_lnwd.py. -/
import Derived.Test.YteennbdakjjcfaaDoorLnDg
set_option linter.unusedVariables false
set_option linter.unusedSimpArgs false
namespace Go.Proofs.YteennbdakjjcfaaDoor
open Go Go.RowKit Go.Lib
set_option maxRecDepth 100000 in
set_option maxHeartbeats 2000000 in
theorem word_w (a : AN) (va : Option Addr) (bl vc : Nat) (hbl : a.b.length = bl) (hb : bl ≤ 100000) (hr : (0 ≤ a.which ∧ a.which ≤ 65535) ∧ (0 ≤ a.k ∧ a.k ≤ 65535) ∧ (0 ≤ a.n ∧ a.n ≤ 65535) ∧ (0 ≤ a.at_ ∧ a.at_ ≤ 65535)) (w : World) (hB : BytesAt w va vc a.b) :
    Calls Tryd.prog 32 #[.agg (actA a (.slice va bl vc)), .int .i32 119] w fun e w' => e = .returned (sV (wordA a 119)) ∧ Below w.heap.size w w' := by
  have HBK : Hid ((w.alloc (.cells (actA a (.slice va bl vc)) 44)).heap[w.heap.size]? = some (.cells (actA a (.slice va bl vc)) 44 (0, 0))) := heap_new' _ _
  have HBE : Hid (Below w.heap.size w (w.alloc (.cells (actA a (.slice va bl vc)) 44))) := (Below.refl _ _).alloc (Nat.le_refl _) _
  obtain ⟨x, hx⟩ : ∃ x : Nat, a.which = (x : Int) := ⟨a.which.toNat, by have := hr.1; omega⟩
  have HX : Hid (x ≤ 65535) := by have := hr.1; show _ ≤ _; omega
  have HW : Hid (wordA a 119 = numD x) := by show numD a.which.toNat = _; rw [hx]; rfl
  have c0 := (cells_at HBK.out 2).trans (show _ = some (Value.int .i64 (x : Int)) from by rw [← hx]; rfl)
  clear hx hr hbl hb hB
  go_enter Tryd.func32, Tryd.ntmps32
  go_upto_region 1 with fail
  generalize w.alloc (.cells (actA a (.slice va bl vc)) 44) = w0 at *
  go_wp2_with fail
  refine (digits_c x HX.out w0).mono ?_
  rintro e w1 ⟨rfl, rfl⟩
  go_wp2
  go_ret
  exact ⟨by rw [HW.out]; rfl, HBE.out⟩
set_option maxRecDepth 100000 in
set_option maxHeartbeats 2000000 in
theorem word_k (a : AN) (va : Option Addr) (bl vc : Nat) (hbl : a.b.length = bl) (hb : bl ≤ 100000) (hr : (0 ≤ a.which ∧ a.which ≤ 65535) ∧ (0 ≤ a.k ∧ a.k ≤ 65535) ∧ (0 ≤ a.n ∧ a.n ≤ 65535) ∧ (0 ≤ a.at_ ∧ a.at_ ≤ 65535)) (w : World) (hB : BytesAt w va vc a.b) :
    Calls Tryd.prog 32 #[.agg (actA a (.slice va bl vc)), .int .i32 107] w fun e w' => e = .returned (sV (wordA a 107)) ∧ Below w.heap.size w w' := by
  have HBK : Hid ((w.alloc (.cells (actA a (.slice va bl vc)) 44)).heap[w.heap.size]? = some (.cells (actA a (.slice va bl vc)) 44 (0, 0))) := heap_new' _ _
  have HBE : Hid (Below w.heap.size w (w.alloc (.cells (actA a (.slice va bl vc)) 44))) := (Below.refl _ _).alloc (Nat.le_refl _) _
  obtain ⟨x, hx⟩ : ∃ x : Nat, a.k = (x : Int) := ⟨a.k.toNat, by have := hr.2.1; omega⟩
  have HX : Hid (x ≤ 65535) := by have := hr.2.1; show _ ≤ _; omega
  have HW : Hid (wordA a 107 = numD x) := by show numD a.k.toNat = _; rw [hx]; rfl
  have c0 := (cells_at HBK.out 3).trans (show _ = some (Value.int .i64 (x : Int)) from by rw [← hx]; rfl)
  clear hx hr hbl hb hB
  go_enter Tryd.func32, Tryd.ntmps32
  go_upto_region 1 with fail
  generalize w.alloc (.cells (actA a (.slice va bl vc)) 44) = w0 at *
  go_wp2_with fail
  refine (digits_c x HX.out w0).mono ?_
  rintro e w1 ⟨rfl, rfl⟩
  go_wp2
  go_ret
  exact ⟨by rw [HW.out]; rfl, HBE.out⟩
set_option maxRecDepth 100000 in
set_option maxHeartbeats 2000000 in
theorem word_n (a : AN) (va : Option Addr) (bl vc : Nat) (hbl : a.b.length = bl) (hb : bl ≤ 100000) (hr : (0 ≤ a.which ∧ a.which ≤ 65535) ∧ (0 ≤ a.k ∧ a.k ≤ 65535) ∧ (0 ≤ a.n ∧ a.n ≤ 65535) ∧ (0 ≤ a.at_ ∧ a.at_ ≤ 65535)) (w : World) (hB : BytesAt w va vc a.b) :
    Calls Tryd.prog 32 #[.agg (actA a (.slice va bl vc)), .int .i32 110] w fun e w' => e = .returned (sV (wordA a 110)) ∧ Below w.heap.size w w' := by
  have HBK : Hid ((w.alloc (.cells (actA a (.slice va bl vc)) 44)).heap[w.heap.size]? = some (.cells (actA a (.slice va bl vc)) 44 (0, 0))) := heap_new' _ _
  have HBE : Hid (Below w.heap.size w (w.alloc (.cells (actA a (.slice va bl vc)) 44))) := (Below.refl _ _).alloc (Nat.le_refl _) _
  obtain ⟨x, hx⟩ : ∃ x : Nat, a.n = (x : Int) := ⟨a.n.toNat, by have := hr.2.2.1; omega⟩
  have HX : Hid (x ≤ 65535) := by have := hr.2.2.1; show _ ≤ _; omega
  have HW : Hid (wordA a 110 = numD x) := by show numD a.n.toNat = _; rw [hx]; rfl
  have c0 := (cells_at HBK.out 4).trans (show _ = some (Value.int .i64 (x : Int)) from by rw [← hx]; rfl)
  clear hx hr hbl hb hB
  go_enter Tryd.func32, Tryd.ntmps32
  go_upto_region 1 with fail
  generalize w.alloc (.cells (actA a (.slice va bl vc)) 44) = w0 at *
  go_wp2_with fail
  refine (digits_c x HX.out w0).mono ?_
  rintro e w1 ⟨rfl, rfl⟩
  go_wp2
  go_ret
  exact ⟨by rw [HW.out]; rfl, HBE.out⟩
set_option maxRecDepth 100000 in
set_option maxHeartbeats 2000000 in
theorem word_a (a : AN) (va : Option Addr) (bl vc : Nat) (hbl : a.b.length = bl) (hb : bl ≤ 100000) (hr : (0 ≤ a.which ∧ a.which ≤ 65535) ∧ (0 ≤ a.k ∧ a.k ≤ 65535) ∧ (0 ≤ a.n ∧ a.n ≤ 65535) ∧ (0 ≤ a.at_ ∧ a.at_ ≤ 65535)) (w : World) (hB : BytesAt w va vc a.b) :
    Calls Tryd.prog 32 #[.agg (actA a (.slice va bl vc)), .int .i32 97] w fun e w' => e = .returned (sV (wordA a 97)) ∧ Below w.heap.size w w' := by
  have HBK : Hid ((w.alloc (.cells (actA a (.slice va bl vc)) 44)).heap[w.heap.size]? = some (.cells (actA a (.slice va bl vc)) 44 (0, 0))) := heap_new' _ _
  have HBE : Hid (Below w.heap.size w (w.alloc (.cells (actA a (.slice va bl vc)) 44))) := (Below.refl _ _).alloc (Nat.le_refl _) _
  obtain ⟨x, hx⟩ : ∃ x : Nat, a.at_ = (x : Int) := ⟨a.at_.toNat, by have := hr.2.2.2; omega⟩
  have HX : Hid (x ≤ 65535) := by have := hr.2.2.2; show _ ≤ _; omega
  have HW : Hid (wordA a 97 = numD x) := by show numD a.at_.toNat = _; rw [hx]; rfl
  have c0 := (cells_at HBK.out 5).trans (show _ = some (Value.int .i64 (x : Int)) from by rw [← hx]; rfl)
  clear hx hr hbl hb hB
  go_enter Tryd.func32, Tryd.ntmps32
  go_upto_region 1 with fail
  generalize w.alloc (.cells (actA a (.slice va bl vc)) 44) = w0 at *
  go_wp2_with fail
  refine (digits_c x HX.out w0).mono ?_
  rintro e w1 ⟨rfl, rfl⟩
  go_wp2
  go_ret
  exact ⟨by rw [HW.out]; rfl, HBE.out⟩
set_option maxRecDepth 100000 in
set_option maxHeartbeats 2000000 in
theorem word_b (a : AN) (va : Option Addr) (bl vc : Nat) (hbl : a.b.length = bl) (hb : bl ≤ 100000) (hr : (0 ≤ a.which ∧ a.which ≤ 65535) ∧ (0 ≤ a.k ∧ a.k ≤ 65535) ∧ (0 ≤ a.n ∧ a.n ≤ 65535) ∧ (0 ≤ a.at_ ∧ a.at_ ≤ 65535)) (w : World) (hB : BytesAt w va vc a.b) :
    Calls Tryd.prog 32 #[.agg (actA a (.slice va bl vc)), .int .i32 98] w fun e w' => e = .returned (sV (wordA a 98)) ∧ Below w.heap.size w w' := by
  have HBK : Hid ((w.alloc (.cells (actA a (.slice va bl vc)) 44)).heap[w.heap.size]? = some (.cells (actA a (.slice va bl vc)) 44 (0, 0))) := heap_new' _ _
  have HBE : Hid (Below w.heap.size w (w.alloc (.cells (actA a (.slice va bl vc)) 44))) := (Below.refl _ _).alloc (Nat.le_refl _) _
  have HY : Hid (BytesAt (w.alloc (.cells (actA a (.slice va bl vc)) 44)) va vc a.b) := hB.up HBE.out (Nat.le_refl _)
  have c0 := (cells_at HBK.out 6).trans (show _ = some (Value.slice va bl vc) from rfl)
  have HW : Hid (wordA a 98 = hexS a.b) := rfl
  have HBL := Lib.hid hbl
  have HB9 := Lib.hid hb
  clear hr hbl hb hB
  go_enter Tryd.func32, Tryd.ntmps32
  go_upto_region 1 with fail
  generalize w.alloc (.cells (actA a (.slice va bl vc)) 44) = w0 at *
  go_wp2_with fail
  refine (lhex_c va bl vc a.b HBL.out HB9.out w0 HY.out).mono ?_
  rintro e w1 ⟨rfl, hb1⟩
  have HB1 : Hid (Below w.heap.size w w1) := HBE.out.trans (hb1.mono HBE.out.size)
  clear hb1
  go_wp2
  go_ret
  exact ⟨by rw [HW.out]; rfl, HB1.out⟩
set_option maxRecDepth 100000 in
set_option maxHeartbeats 2000000 in
theorem word_o (a : AN) (va : Option Addr) (bl vc : Nat) (hbl : a.b.length = bl) (hb : bl ≤ 100000) (hr : (0 ≤ a.which ∧ a.which ≤ 65535) ∧ (0 ≤ a.k ∧ a.k ≤ 65535) ∧ (0 ≤ a.n ∧ a.n ≤ 65535) ∧ (0 ≤ a.at_ ∧ a.at_ ≤ 65535)) (w : World) (hB : BytesAt w va vc a.b) :
    Calls Tryd.prog 32 #[.agg (actA a (.slice va bl vc)), .int .i32 111] w fun e w' => e = .returned (sV (wordA a 111)) ∧ Below w.heap.size w w' := by
  have HBK : Hid ((w.alloc (.cells (actA a (.slice va bl vc)) 44)).heap[w.heap.size]? = some (.cells (actA a (.slice va bl vc)) 44 (0, 0))) := heap_new' _ _
  have HBE : Hid (Below w.heap.size w (w.alloc (.cells (actA a (.slice va bl vc)) 44))) := (Below.refl _ _).alloc (Nat.le_refl _) _
  obtain ⟨ye, hye⟩ : ∃ y, y = a.yes := ⟨_, rfl⟩
  have HYE := Lib.hid hye
  have c0 := (cells_at HBK.out 1).trans (show _ = some (Value.bool ye) from by rw [hye]; rfl)
  clear hr hbl hb hB hye
  cases ye with
  | true =>
    have HW : Hid (wordA a 111 = [119, 114, 105, 116, 101]) := by show (if a.yes then _ else _) = _; rw [← HYE.out]; rfl
    go_enter Tryd.func32, Tryd.ntmps32
    go_upto_region 1 with fail
    generalize w.alloc (.cells (actA a (.slice va bl vc)) 44) = w0 at *
    go_wp2
    go_ret
    exact ⟨by rw [HW.out]; rfl, HBE.out⟩
  | false =>
    have HW : Hid (wordA a 111 = [114, 101, 97, 100]) := by show (if a.yes then _ else _) = _; rw [← HYE.out]; rfl
    go_enter Tryd.func32, Tryd.ntmps32
    go_upto_region 1 with fail
    generalize w.alloc (.cells (actA a (.slice va bl vc)) 44) = w0 at *
    go_wp2
    go_ret
    exact ⟨by rw [HW.out]; rfl, HBE.out⟩
set_option maxRecDepth 100000 in
set_option maxHeartbeats 2000000 in
theorem word_s (a : AN) (va : Option Addr) (bl vc : Nat) (hbl : a.b.length = bl) (hb : bl ≤ 100000) (hr : (0 ≤ a.which ∧ a.which ≤ 65535) ∧ (0 ≤ a.k ∧ a.k ≤ 65535) ∧ (0 ≤ a.n ∧ a.n ≤ 65535) ∧ (0 ≤ a.at_ ∧ a.at_ ≤ 65535)) (w : World) (hB : BytesAt w va vc a.b) :
    Calls Tryd.prog 32 #[.agg (actA a (.slice va bl vc)), .int .i32 115] w fun e w' => e = .returned (sV (wordA a 115)) ∧ Below w.heap.size w w' := by
  have HBK : Hid ((w.alloc (.cells (actA a (.slice va bl vc)) 44)).heap[w.heap.size]? = some (.cells (actA a (.slice va bl vc)) 44 (0, 0))) := heap_new' _ _
  have HBE : Hid (Below w.heap.size w (w.alloc (.cells (actA a (.slice va bl vc)) 44))) := (Below.refl _ _).alloc (Nat.le_refl _) _
  obtain ⟨x, hx⟩ : ∃ x : Nat, a.which = (x : Int) := ⟨a.which.toNat, by have := hr.1; omega⟩
  have HX : Hid (x ≤ 65535) := by have := hr.1; show _ ≤ _; omega
  obtain ⟨ye, hye⟩ : ∃ y, y = a.yes := ⟨_, rfl⟩
  have HYE := Lib.hid hye
  have HXE := Lib.hid hx
  have c0 := (cells_at HBK.out 1).trans (show _ = some (Value.bool ye) from by rw [hye]; rfl)
  have c1 := (cells_at HBK.out 2).trans (show _ = some (Value.int .i64 (x : Int)) from by rw [← hx]; rfl)
  clear hr hbl hb hB hye hx
  cases ye with
  | true =>
    have HW : Hid (wordA a 115 = [110, 111, 110, 101]) := by show (if a.yes then _ else _) = _; rw [← HYE.out]; rfl
    go_enter Tryd.func32, Tryd.ntmps32
    go_upto_region 1 with fail
    generalize w.alloc (.cells (actA a (.slice va bl vc)) 44) = w0 at *
    go_wp2
    go_ret
    exact ⟨by rw [HW.out]; rfl, HBE.out⟩
  | false =>
    have HW : Hid (wordA a 115 = numD x) := by show (if a.yes then _ else numD a.which.toNat) = _; rw [← HYE.out, HXE.out]; rfl
    go_enter Tryd.func32, Tryd.ntmps32
    go_upto_region 1 with fail
    generalize w.alloc (.cells (actA a (.slice va bl vc)) 44) = w0 at *
    go_wp2_with fail
    refine (digits_c x HX.out w0).mono ?_
    rintro e w1 ⟨rfl, rfl⟩
    go_wp2
    go_ret
    exact ⟨by rw [HW.out]; rfl, HBE.out⟩
theorem word_c (c : Nat) (hc : c = 119 ∨ c = 107 ∨ c = 110 ∨ c = 97 ∨ c = 98 ∨ c = 111 ∨ c = 115) (a : AN) (va : Option Addr) (bl vc : Nat) (hbl : a.b.length = bl) (hb : bl ≤ 100000) (hr : (0 ≤ a.which ∧ a.which ≤ 65535) ∧ (0 ≤ a.k ∧ a.k ≤ 65535) ∧ (0 ≤ a.n ∧ a.n ≤ 65535) ∧ (0 ≤ a.at_ ∧ a.at_ ≤ 65535)) (w : World) (hB : BytesAt w va vc a.b) :
    Calls Tryd.prog 32 #[.agg (actA a (.slice va bl vc)), .int .i32 (c : Int)] w fun e w' => e = .returned (sV (wordA a c)) ∧ Below w.heap.size w w' := by
  rcases hc with rfl | rfl | rfl | rfl | rfl | rfl | rfl
  · exact word_w a va bl vc hbl hb hr w hB
  · exact word_k a va bl vc hbl hb hr w hB
  · exact word_n a va bl vc hbl hb hr w hB
  · exact word_a a va bl vc hbl hb hr w hB
  · exact word_b a va bl vc hbl hb hr w hB
  · exact word_o a va bl vc hbl hb hr w hB
  · exact word_s a va bl vc hbl hb hr w hB
theorem mayL_split {a : AN} (h : mayL a = true) : mayA a = true ∧ ((a.kind == 11) = false ∨ a.yes = false ∨ (a.which == 0) = true) := by
  unfold mayL at h
  simp only [Bool.and_eq_true, Bool.or_eq_true, Bool.not_eq_true'] at h
  exact ⟨h.1, h.2⟩
theorem mayL_not {a : AN} (h : mayL a = false) : mayA a = false ∨ (mayA a = true ∧ (a.kind == 11) = true ∧ a.yes = true ∧ (a.which == 0) = false) := by
  unfold mayL at h
  cases hm : mayA a with
  | false => exact Or.inl rfl
  | true =>
    rw [hm] at h
    cases h1 : (a.kind == 11) <;> cases h2 : a.yes <;> cases h3 : (a.which == 0) <;> rw [h1, h2, h3] at h <;> first | (cases h; done) | exact Or.inr ⟨rfl, rfl, rfl, rfl⟩
set_option maxRecDepth 100000 in
set_option maxHeartbeats 4000000 in
theorem lline_no (a : AN) (va : Option Addr) (bl vc : Nat) (hbl : a.b.length = bl) (hva : va = none → vc = 0) (hm : mayL a = false) (w : World) :
    Calls Tryd.prog 14 #[.agg (actA a (.slice va bl vc))] w fun e w' => e = .returned (.tuple #[sV [], .int .i64 1]) ∧ Below w.heap.size w w' := by
  have HBK : Hid ((w.alloc (.cells (actA a (.slice va bl vc)) 44)).heap[w.heap.size]? = some (.cells (actA a (.slice va bl vc)) 44 (0, 0))) := heap_new' _ _
  have HBE : Hid (Below w.heap.size w (w.alloc (.cells (actA a (.slice va bl vc)) 44))) := (Below.refl _ _).alloc (Nat.le_refl _) _
  have HMAY := Lib.hid (fun w => smay_c a va bl vc hbl hva w)
  have HM := Lib.hid (mayL_not hm)
  clear hbl hva hm
  go_enter Tryd.func14, Tryd.ntmps14
  go_upto_region 1 with fail
  generalize w.alloc (.cells (actA a (.slice va bl vc)) 44) = w0 at *
  go_wp2_with (first
    | (refine wpList_load_row rfl 44 (.tmp 1) rfl w.heap.size rfl _ _ _ _ HBK.out Tryd.underlying44 rfl (by rw [act44]; rfl) ?_)
    | fail)
  refine (HMAY.out w0).mono ?_
  rintro e w1 ⟨rfl, hb1⟩
  have HC1 : Hid (w1.heap[w.heap.size]? = some (.cells (actA a (.slice va bl vc)) 44 (0, 0))) := (hb1.block _ (lt_of_block HBK.out)).trans HBK.out
  have HB1 : Hid (Below w.heap.size w w1) := HBE.out.trans (hb1.mono HBE.out.size)
  have c0 := (cells_at HC1.out 0).trans (show _ = some (Value.int .i64 a.kind) from rfl)
  have c1 := (cells_at HC1.out 1).trans (show _ = some (Value.bool a.yes) from rfl)
  have c2 := (cells_at HC1.out 2).trans (show _ = some (Value.int .i64 a.which) from rfl)
  clear hb1
  rcases HM.out with h | ⟨h, h1, h2, h3⟩
  · rw [h]
    clear h
    go_wp2
    go_ret2
    exact ⟨rfl, HB1.out⟩
  · rw [h]
    have n3 : (a.which != 0) = true := by rw [bne, h3]; rfl
    clear h
    go_wp2
    go_ret2
    exact ⟨rfl, HB1.out⟩
set_option maxRecDepth 100000 in
set_option maxHeartbeats 8000000 in
theorem lline_c (k : Nat) (hk : k < 20) (a : AN) (hak : a.kind = (k : Int)) (va : Option Addr) (bl vc : Nat) (hbl : a.b.length = bl) (hb : bl ≤ 100000) (hva : va = none → vc = 0) (hm : mayL a = true) (w : World) (hB : BytesAt w va vc a.b) :
    Calls Tryd.prog 14 #[.agg (actA a (.slice va bl vc))] w fun e w' => e = .returned (.tuple #[sV (lineA k a), .int .i64 0]) ∧ Below w.heap.size w w' := by
  have HBK : Hid ((w.alloc (.cells (actA a (.slice va bl vc)) 44)).heap[w.heap.size]? = some (.cells (actA a (.slice va bl vc)) 44 (0, 0))) := heap_new' _ _
  have HBE : Hid (Below w.heap.size w (w.alloc (.cells (actA a (.slice va bl vc)) 44))) := (Below.refl _ _).alloc (Nat.le_refl _) _
  have HY0 : Hid (BytesAt (w.alloc (.cells (actA a (.slice va bl vc)) 44)) va vc a.b) := hB.up HBE.out (Nat.le_refl _)
  have HYW := Lib.hid hB
  have HMAY := Lib.hid (fun w => smay_c a va bl vc hbl hva w)
  have HM := Lib.hid (mayL_split hm)
  have HNUM := Lib.hid (mayL_num hm).2
  have HNM := Lib.hid (fun w => name31_c k hk w)
  have HAK := Lib.hid hak
  have HBL := Lib.hid hbl
  have HB9 := Lib.hid hb
  have hol := order_len k
  have hnl := name_len k
  have HSG := Lib.hid (order_signs k)
  obtain ⟨f, hf⟩ : ∃ f, f = orderK k := ⟨_, rfl⟩
  obtain ⟨nm, hnm⟩ : ∃ x, x = nameK k := ⟨_, rfl⟩
  rw [← hf, ← hnm] at HNM
  rw [← hf] at HSG hol
  rw [← hnm] at hnl
  have HLA : Hid (lineA k a = nm ++ lineF a f) := by show _ = _; rw [hf, hnm]; rfl
  have HOL : Hid (f.length ≤ 3 ∧ nm.length ≤ 7) := ⟨hol, hnl⟩
  clear hbl hva hm hak hb hf hnm hol hnl hB hk
  go_enter Tryd.func14, Tryd.ntmps14
  go_upto_region 1 with fail
  generalize w.alloc (.cells (actA a (.slice va bl vc)) 44) = w0 at *
  go_cut [24] from 8 to 23 (fun vs wx => vs = .bool false ∧ Hid (Below w0.heap.size w0 wx))
  case first =>
    go_wp2_with (first
      | (refine wpList_load_row rfl 44 (.tmp 1) rfl w.heap.size rfl _ _ _ _ HBK.out Tryd.underlying44 rfl (by rw [act44]; rfl) ?_)
      | fail)
    refine (HMAY.out w0).mono ?_
    rintro e w1 ⟨rfl, hb1⟩
    have HC1 : Hid (w1.heap[w.heap.size]? = some (.cells (actA a (.slice va bl vc)) 44 (0, 0))) := (hb1.block _ (lt_of_block HBK.out)).trans HBK.out
    have HB1 := Lib.hid hb1
    have c0 := (cells_at HC1.out 0).trans (show _ = some (Value.int .i64 a.kind) from rfl)
    have c1 := (cells_at HC1.out 1).trans (show _ = some (Value.bool a.yes) from rfl)
    have c2 := (cells_at HC1.out 2).trans (show _ = some (Value.int .i64 a.which) from rfl)
    clear hb1
    rw [HM.out.1]
    rcases HM.out.2 with h1 | h1 | h1
    · go_wp2_with fail
      go_meet
      exact ⟨rfl, HB1.out⟩
    · cases h0 : (a.kind == 11)
      · go_wp2_with fail
        go_meet
        exact ⟨rfl, HB1.out⟩
      · go_wp2_with fail
        go_meet
        exact ⟨rfl, HB1.out⟩
    · have n1 : (a.which != 0) = false := by rw [bne, h1]; rfl
      cases h0 : (a.kind == 11)
      · go_wp2_with fail
        go_meet
        exact ⟨rfl, HB1.out⟩
      · cases h2 : a.yes
        · go_wp2_with fail
          go_meet
          exact ⟨rfl, HB1.out⟩
        · go_wp2_with fail
          go_meet
          exact ⟨rfl, HB1.out⟩
  case rest =>
    obtain ⟨rfl, hb1⟩ := hcut
    have HC1 : Hid (wc.heap[w.heap.size]? = some (.cells (actA a (.slice va bl vc)) 44 (0, 0))) := (hb1.out.block _ (lt_of_block HBK.out)).trans HBK.out
    have HB1 : Hid (Below w.heap.size w wc) := HBE.out.trans (hb1.out.mono HBE.out.size)
    have HY1 : Hid (BytesAt wc va vc a.b) := HY0.out.up hb1.out (Nat.le_refl _)
    clear hb1 HY0 HBE HBK
    generalize wc = w1 at *
    have c0 := (cells_at HC1.out 0).trans (show _ = some (Value.int .i64 (k : Int)) from by rw [← HAK.out]; rfl)
    obtain ⟨it, hit⟩ : ∃ it, it = w1.heap.size := ⟨_, rfl⟩
    have HIT := Lib.hid hit
    have HI0 : Hid ((w1.iter ⟨f.toArray⟩ 0).heap[it]? = some (.stringIter ⟨f.toArray⟩ 0)) := by rw [hit]; exact World.iter_heap _ _ _
    have HBI : Hid (Below w1.heap.size w1 (w1.iter ⟨f.toArray⟩ 0)) := (Below.refl _ _).alloc (Nat.le_refl _) _
    have HC2 : Hid ((w1.iter ⟨f.toArray⟩ 0).heap[w.heap.size]? = some (.cells (actA a (.slice va bl vc)) 44 (0, 0))) := (HBI.out.block _ (lt_of_block HC1.out)).trans HC1.out
    have HB2 : Hid (Below w.heap.size w (w1.iter ⟨f.toArray⟩ 0)) := HB1.out.trans (HBI.out.mono HB1.out.size)
    have HY2 : Hid (BytesAt (w1.iter ⟨f.toArray⟩ 0) va vc a.b) := HY1.out.up HBI.out (Nat.le_refl _)
    have HLI : Hid (w.heap.size < it) := by rw [hit]; exact lt_of_block HC1.out
    have hrg : ∀ w : World, (Instr.range 9 (sV f)).run Tryd.prog w = .ok (.pointer (some ⟨w.heap.size, 0, none⟩)) (w.iter ⟨f.toArray⟩ 0) := fun w => run_range_string w 9 _ Tryd.underlying9
    obtain ⟨n, hn⟩ : ∃ n, n = f.length := ⟨_, rfl⟩
    have HN := Lib.hid hn
    clear hit hn
    go_wp2_with fail
    refine (HNM.out w1).mono ?_
    rintro e w2 ⟨rfl, rfl⟩
    go_wp2
    rw [← HIT.out]
    clear hrg HIT c0 HC1 HB1 HY1 HBI
    generalize w1.iter ⟨f.toArray⟩ 0 = w3 at *
    go_loopw [4, 7] (fun vs _ wr => ∃ pos : Nat, pos ≤ n ∧ vs = sV (nm ++ lineF a (f.take pos)) ∧ Hid (wr.heap[it]? = some (.stringIter ⟨f.toArray⟩ pos)) ∧ Hid (wr.heap[w.heap.size]? = some (.cells (actA a (.slice va bl vc)) 44 (0, 0))) ∧ Hid (Below w.heap.size w wr)) (fun _ _ wr => n - wr.iterPos it)
    case atStart => exact ⟨0, Nat.zero_le _, by rw [List.take_zero]; show _ = sV (nm ++ []); rw [List.append_nil], HI0.out, HC2.out, HB2.out⟩
    case round =>
      clear HI0 HC2 HB2 HY2
      obtain ⟨pos, hpos, rfl, hit, hcb, hbel⟩ := hrel
      have HS : Hid ((ByteArray.mk f.toArray).size = n) := HN.out.symm
      by_cases hp : pos < n
      · obtain ⟨c, hc⟩ : ∃ c, c = (f.getD pos 0).toNat := ⟨_, rfl⟩
        have hpf : pos < f.length := by rw [← HN.out]; exact hp
        have HC7 : Hid (c = 119 ∨ c = 107 ∨ c = 110 ∨ c = 97 ∨ c = 98 ∨ c = 111 ∨ c = 115) := by
          show _ ∨ _
          rw [hc, List.getD_eq_getElem?_getD, List.getElem?_eq_getElem hpf]
          exact HSG.out _ (List.getElem_mem _)
        have hge : ∀ h, ((ByteArray.mk f.toArray)[pos]'h).toNat = c := fun h => by
          rw [hc, List.getD_eq_getElem?_getD, List.getElem?_eq_getElem hpf]
          rfl
        have hnext : ∀ ty, (Instr.next (.pointer (some ⟨it, 0, none⟩)) true ty).run Tryd.prog wr = .ok (.tuple #[.bool true, .int .i64 (pos : Int), .int .i32 (c : Int)]) (wr.iterAt it ⟨f.toArray⟩ (pos + 1)) := fun ty => by
          have h := Lib.run_next_ascii_at (P := Tryd.prog) wr it ⟨f.toArray⟩ pos ty hit.out (by rw [HS.out]; exact hp) (by rw [hge]; have := HC7.out; omega)
          rw [hge] at h
          exact h
        have HIT1 : Hid ((wr.iterAt it ⟨f.toArray⟩ (pos + 1)).heap[it]? = some (.stringIter ⟨f.toArray⟩ (pos + 1))) := Lib.iterAt_heap wr it ⟨f.toArray⟩ pos (pos + 1) hit.out
        have HC4 : Hid ((wr.iterAt it ⟨f.toArray⟩ (pos + 1)).heap[w.heap.size]? = some (.cells (actA a (.slice va bl vc)) 44 (0, 0))) := (Lib.iterAt_other _ _ _ _ _ (by have := HLI.out; omega)).trans hcb.out
        have HB4 : Hid (Below w.heap.size w (wr.iterAt it ⟨f.toArray⟩ (pos + 1))) := Lib.below_iterAt hbel.out (Nat.le_of_lt HLI.out) _ _
        have HY4 : Hid (BytesAt (wr.iterAt it ⟨f.toArray⟩ (pos + 1)) va vc a.b) := HYW.out.up HB4.out (Nat.le_refl _)
        have HMU : Hid (wr.iterPos it = pos) := by show _ = _; simp [World.iterPos, hit.out]
        have HSN := Lib.hid (lineF_snoc a f pos hpf)
        rw [← hc] at HSN
        have HP := Lib.hid hp
        obtain ⟨X, hX⟩ : ∃ X, X = nm ++ lineF a (f.take pos) := ⟨_, rfl⟩
        obtain ⟨Y, hY⟩ : ∃ Y, Y = wordA a c := ⟨_, rfl⟩
        have HNX : Hid (nm ++ lineF a (f.take (pos + 1)) = X ++ (32 :: Y)) := by show _ = _; rw [HSN.out, hX, hY, List.append_assoc]
        have HXL : Hid (X.length ≤ 1000000 ∧ Y.length ≤ 1000000) := by
          have h1 := lineF_len a (f.take pos)
          have h2 : (f.take pos).length ≤ 3 := by rw [List.length_take]; have := HOL.out; omega
          have h3 : (f.take pos).length * (6 + 2 * a.b.length) ≤ 3 * (6 + 2 * a.b.length) := Nat.mul_le_mul_right _ h2
          have h4 := HOL.out
          have h5 := HBL.out
          have h6 := HB9.out
          have h7 := wordA_len a c
          refine ⟨?_, by rw [hY]; omega⟩
          rw [hX, List.length_append]
          omega
        have HYE := Lib.hid hY
        rw [← hX]
        clear hc hpf hge hit hcb hbel hp hpos hX hY HSN
        obtain ⟨W1, hW1⟩ : ∃ W1, W1 = wr.iterAt it ⟨f.toArray⟩ (pos + 1) := ⟨_, rfl⟩
        rw [← hW1] at hnext HIT1 HC4 HB4 HY4
        clear hW1
        go_wp2_with (first
          | (refine wpList_load_row rfl 44 (.tmp 1) rfl w.heap.size rfl _ _ _ _ HC4.out Tryd.underlying44 rfl (by rw [act44]; rfl) ?_)
          | fail)
        refine (word_c c HC7.out a va bl vc HBL.out HB9.out HNUM.out W1 HY4.out).mono ?_
        rintro e w4 ⟨rfl, hb5⟩
        have HIT5 : Hid (w4.heap[it]? = some (.stringIter ⟨f.toArray⟩ (pos + 1))) := (hb5.block _ (lt_of_block HIT1.out)).trans HIT1.out
        have HC5 : Hid (w4.heap[w.heap.size]? = some (.cells (actA a (.slice va bl vc)) 44 (0, 0))) := (hb5.block _ (lt_of_block HC4.out)).trans HC4.out
        have HB5 : Hid (Below w.heap.size w w4) := HB4.out.trans (hb5.mono HB4.out.size)
        rw [← HYE.out]
        have l1 : 1 + Y.length ≤ 9223372036854775807 := by have := HXL.out; omega
        have l2 : Y.length ≤ 9223372036854775806 := by omega
        have l3 : X.length + (1 + Y.length) ≤ 9223372036854775807 := by have := HXL.out; omega
        have l4 : X.length + (Y.length + 1) ≤ 9223372036854775807 := by have := HXL.out; omega
        clear hb5 HIT1 HC4 HB4 HY4 hnext
        go_wp2
        go_roundw
        case rel => exact ⟨pos + 1, by have := HP.out; omega, by first | (rw [HNX.out]; done) | (rw [HNX.out]; rfl) | (rw [HNX.out]; simp; done), HIT5.out, HC5.out, HB5.out⟩
        case measure => rw [HMU.out, show w4.iterPos it = pos + 1 by simp [World.iterPos, HIT5.out]]; have := HP.out; omega
      · have hnext : ∀ ty, (Instr.next (.pointer (some ⟨it, 0, none⟩)) true ty).run Tryd.prog wr = .ok (.tuple #[.bool false]) wr := fun ty => Lib.run_next_end_at wr it ⟨f.toArray⟩ pos ty hit.out (by rw [HS.out]; exact hp)
        have HE : Hid (lineA k a = nm ++ lineF a (f.take pos)) := by show _ = _; rw [HLA.out, List.take_of_length_le (by rw [← HN.out]; omega)]
        go_wp2
        go_ret2
        exact ⟨by rw [HE.out]; rfl, hbel.out⟩
end Go.Proofs.YteennbdakjjcfaaDoor
