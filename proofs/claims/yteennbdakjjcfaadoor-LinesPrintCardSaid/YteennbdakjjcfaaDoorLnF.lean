/- Kinds of acts: their fields, signs, words. Printed by gen_lnf.py. -/
import Derived.Test.YteennbdakjjcfaaDoorLnE
set_option linter.unusedVariables false
set_option linter.unusedSimpArgs false
namespace Go.Proofs.YteennbdakjjcfaaDoor
open Go Go.RowKit Go.Lib
structure AN where
  kind : Int
  yes : Bool
  which : Int
  k : Int
  n : Int
  at_ : Int
  b : List Nat
def actA (a : AN) (v : Value) : Array Value := #[.int .i64 a.kind, .bool a.yes, .int .i64 a.which, .int .i64 a.k, .int .i64 a.n, .int .i64 a.at_, v]
def fieldsK (k : Nat) : List UInt8 := match k with
  | 1 => [121]
  | 6 => [110]
  | 7 => [119]
  | 8 => [119, 110]
  | 9 => [119, 97, 98]
  | 10 => [119, 97, 110]
  | 11 => [107, 119, 121]
  | 12 => [107]
  | 13 => [119]
  | 16 => [98]
  | 17 => [110, 98]
  | 18 => [97, 98]
  | _ => []
def orderK (k : Nat) : List UInt8 := match k with
  | 1 => [111]
  | 6 => [110]
  | 7 => [119]
  | 8 => [119, 110]
  | 9 => [119, 97, 98]
  | 10 => [119, 97, 110]
  | 11 => [107, 115]
  | 12 => [107]
  | 13 => [119]
  | 16 => [98]
  | 17 => [110, 98]
  | 18 => [97, 98]
  | _ => []
def nameK (k : Nat) : List UInt8 := match k with
  | 0 => [102, 111, 114, 109, 97, 116]
  | 1 => [111, 112, 101, 110]
  | 2 => [99, 108, 111, 115, 101]
  | 3 => [98, 101, 103, 105, 110]
  | 4 => [99, 111, 109, 109, 105, 116]
  | 5 => [97, 98, 111, 114, 116]
  | 6 => [97, 108, 108, 111, 99]
  | 7 => [102, 114, 101, 101]
  | 8 => [114, 101, 97, 108, 108, 111, 99]
  | 9 => [119, 114, 105, 116, 101]
  | 10 => [114, 101, 97, 100]
  | 11 => [115, 101, 116]
  | 12 => [114, 111, 111, 116]
  | 13 => [115, 105, 122, 101]
  | 14 => [115, 116, 97, 116]
  | 15 => [99, 104, 101, 99, 107]
  | 16 => [99, 114, 97, 115, 104]
  | 17 => [97, 114, 109]
  | 18 => [116, 97, 109, 112, 101, 114]
  | 19 => [111, 110]
  | _ => []
set_option maxRecDepth 100000 in
theorem fields37_0 (w : World) : Calls Tryd.prog 37 #[.int .i64 0] w fun e w' => e = .returned (sV (fieldsK 0)) ∧ w = w' := by
  go_enter Tryd.func37, Tryd.ntmps37
  go_wp2
  go_ret
  exact ⟨rfl, rfl⟩
set_option maxRecDepth 100000 in
theorem fields37_1 (w : World) : Calls Tryd.prog 37 #[.int .i64 1] w fun e w' => e = .returned (sV (fieldsK 1)) ∧ w = w' := by
  go_enter Tryd.func37, Tryd.ntmps37
  go_wp2
  go_ret
  exact ⟨rfl, rfl⟩
set_option maxRecDepth 100000 in
theorem fields37_2 (w : World) : Calls Tryd.prog 37 #[.int .i64 2] w fun e w' => e = .returned (sV (fieldsK 2)) ∧ w = w' := by
  go_enter Tryd.func37, Tryd.ntmps37
  go_wp2
  go_ret
  exact ⟨rfl, rfl⟩
set_option maxRecDepth 100000 in
theorem fields37_3 (w : World) : Calls Tryd.prog 37 #[.int .i64 3] w fun e w' => e = .returned (sV (fieldsK 3)) ∧ w = w' := by
  go_enter Tryd.func37, Tryd.ntmps37
  go_wp2
  go_ret
  exact ⟨rfl, rfl⟩
set_option maxRecDepth 100000 in
theorem fields37_4 (w : World) : Calls Tryd.prog 37 #[.int .i64 4] w fun e w' => e = .returned (sV (fieldsK 4)) ∧ w = w' := by
  go_enter Tryd.func37, Tryd.ntmps37
  go_wp2
  go_ret
  exact ⟨rfl, rfl⟩
set_option maxRecDepth 100000 in
theorem fields37_5 (w : World) : Calls Tryd.prog 37 #[.int .i64 5] w fun e w' => e = .returned (sV (fieldsK 5)) ∧ w = w' := by
  go_enter Tryd.func37, Tryd.ntmps37
  go_wp2
  go_ret
  exact ⟨rfl, rfl⟩
set_option maxRecDepth 100000 in
theorem fields37_6 (w : World) : Calls Tryd.prog 37 #[.int .i64 6] w fun e w' => e = .returned (sV (fieldsK 6)) ∧ w = w' := by
  go_enter Tryd.func37, Tryd.ntmps37
  go_wp2
  go_ret
  exact ⟨rfl, rfl⟩
set_option maxRecDepth 100000 in
theorem fields37_7 (w : World) : Calls Tryd.prog 37 #[.int .i64 7] w fun e w' => e = .returned (sV (fieldsK 7)) ∧ w = w' := by
  go_enter Tryd.func37, Tryd.ntmps37
  go_wp2
  go_ret
  exact ⟨rfl, rfl⟩
set_option maxRecDepth 100000 in
theorem fields37_8 (w : World) : Calls Tryd.prog 37 #[.int .i64 8] w fun e w' => e = .returned (sV (fieldsK 8)) ∧ w = w' := by
  go_enter Tryd.func37, Tryd.ntmps37
  go_wp2
  go_ret
  exact ⟨rfl, rfl⟩
set_option maxRecDepth 100000 in
theorem fields37_9 (w : World) : Calls Tryd.prog 37 #[.int .i64 9] w fun e w' => e = .returned (sV (fieldsK 9)) ∧ w = w' := by
  go_enter Tryd.func37, Tryd.ntmps37
  go_wp2
  go_ret
  exact ⟨rfl, rfl⟩
set_option maxRecDepth 100000 in
theorem fields37_10 (w : World) : Calls Tryd.prog 37 #[.int .i64 10] w fun e w' => e = .returned (sV (fieldsK 10)) ∧ w = w' := by
  go_enter Tryd.func37, Tryd.ntmps37
  go_wp2
  go_ret
  exact ⟨rfl, rfl⟩
set_option maxRecDepth 100000 in
theorem fields37_11 (w : World) : Calls Tryd.prog 37 #[.int .i64 11] w fun e w' => e = .returned (sV (fieldsK 11)) ∧ w = w' := by
  go_enter Tryd.func37, Tryd.ntmps37
  go_wp2
  go_ret
  exact ⟨rfl, rfl⟩
set_option maxRecDepth 100000 in
theorem fields37_12 (w : World) : Calls Tryd.prog 37 #[.int .i64 12] w fun e w' => e = .returned (sV (fieldsK 12)) ∧ w = w' := by
  go_enter Tryd.func37, Tryd.ntmps37
  go_wp2
  go_ret
  exact ⟨rfl, rfl⟩
set_option maxRecDepth 100000 in
theorem fields37_13 (w : World) : Calls Tryd.prog 37 #[.int .i64 13] w fun e w' => e = .returned (sV (fieldsK 13)) ∧ w = w' := by
  go_enter Tryd.func37, Tryd.ntmps37
  go_wp2
  go_ret
  exact ⟨rfl, rfl⟩
set_option maxRecDepth 100000 in
theorem fields37_14 (w : World) : Calls Tryd.prog 37 #[.int .i64 14] w fun e w' => e = .returned (sV (fieldsK 14)) ∧ w = w' := by
  go_enter Tryd.func37, Tryd.ntmps37
  go_wp2
  go_ret
  exact ⟨rfl, rfl⟩
set_option maxRecDepth 100000 in
theorem fields37_15 (w : World) : Calls Tryd.prog 37 #[.int .i64 15] w fun e w' => e = .returned (sV (fieldsK 15)) ∧ w = w' := by
  go_enter Tryd.func37, Tryd.ntmps37
  go_wp2
  go_ret
  exact ⟨rfl, rfl⟩
set_option maxRecDepth 100000 in
theorem fields37_16 (w : World) : Calls Tryd.prog 37 #[.int .i64 16] w fun e w' => e = .returned (sV (fieldsK 16)) ∧ w = w' := by
  go_enter Tryd.func37, Tryd.ntmps37
  go_wp2
  go_ret
  exact ⟨rfl, rfl⟩
set_option maxRecDepth 100000 in
theorem fields37_17 (w : World) : Calls Tryd.prog 37 #[.int .i64 17] w fun e w' => e = .returned (sV (fieldsK 17)) ∧ w = w' := by
  go_enter Tryd.func37, Tryd.ntmps37
  go_wp2
  go_ret
  exact ⟨rfl, rfl⟩
set_option maxRecDepth 100000 in
theorem fields37_18 (w : World) : Calls Tryd.prog 37 #[.int .i64 18] w fun e w' => e = .returned (sV (fieldsK 18)) ∧ w = w' := by
  go_enter Tryd.func37, Tryd.ntmps37
  go_wp2
  go_ret
  exact ⟨rfl, rfl⟩
set_option maxRecDepth 100000 in
theorem fields37_19 (w : World) : Calls Tryd.prog 37 #[.int .i64 19] w fun e w' => e = .returned (sV (fieldsK 19)) ∧ w = w' := by
  go_enter Tryd.func37, Tryd.ntmps37
  go_wp2
  go_ret
  exact ⟨rfl, rfl⟩
theorem fields37_c (k : Nat) (hk : k < 20) (w : World) : Calls Tryd.prog 37 #[.int .i64 (k : Int)] w fun e w' => e = .returned (sV (fieldsK k)) ∧ w = w' := by
  rcases (by omega : k = 0 ∨ k = 1 ∨ k = 2 ∨ k = 3 ∨ k = 4 ∨ k = 5 ∨ k = 6 ∨ k = 7 ∨ k = 8 ∨ k = 9 ∨ k = 10 ∨ k = 11 ∨ k = 12 ∨ k = 13 ∨ k = 14 ∨ k = 15 ∨ k = 16 ∨ k = 17 ∨ k = 18 ∨ k = 19) with rfl | rfl | rfl | rfl | rfl | rfl | rfl | rfl | rfl | rfl | rfl | rfl | rfl | rfl | rfl | rfl | rfl | rfl | rfl | rfl
  · exact fields37_0 w
  · exact fields37_1 w
  · exact fields37_2 w
  · exact fields37_3 w
  · exact fields37_4 w
  · exact fields37_5 w
  · exact fields37_6 w
  · exact fields37_7 w
  · exact fields37_8 w
  · exact fields37_9 w
  · exact fields37_10 w
  · exact fields37_11 w
  · exact fields37_12 w
  · exact fields37_13 w
  · exact fields37_14 w
  · exact fields37_15 w
  · exact fields37_16 w
  · exact fields37_17 w
  · exact fields37_18 w
  · exact fields37_19 w
set_option maxRecDepth 100000 in
theorem order19_0 (w : World) : Calls Tryd.prog 19 #[.int .i64 0] w fun e w' => e = .returned (sV (orderK 0)) ∧ w = w' := by
  go_enter Tryd.func19, Tryd.ntmps19
  go_wp2_with fail
  refine (fields37_0 w).mono ?_
  rintro e w' ⟨rfl, rfl⟩
  go_wp2
  go_ret
  exact ⟨rfl, rfl⟩
set_option maxRecDepth 100000 in
theorem order19_1 (w : World) : Calls Tryd.prog 19 #[.int .i64 1] w fun e w' => e = .returned (sV (orderK 1)) ∧ w = w' := by
  go_enter Tryd.func19, Tryd.ntmps19
  go_wp2
  go_ret
  exact ⟨rfl, rfl⟩
set_option maxRecDepth 100000 in
theorem order19_2 (w : World) : Calls Tryd.prog 19 #[.int .i64 2] w fun e w' => e = .returned (sV (orderK 2)) ∧ w = w' := by
  go_enter Tryd.func19, Tryd.ntmps19
  go_wp2_with fail
  refine (fields37_2 w).mono ?_
  rintro e w' ⟨rfl, rfl⟩
  go_wp2
  go_ret
  exact ⟨rfl, rfl⟩
set_option maxRecDepth 100000 in
theorem order19_3 (w : World) : Calls Tryd.prog 19 #[.int .i64 3] w fun e w' => e = .returned (sV (orderK 3)) ∧ w = w' := by
  go_enter Tryd.func19, Tryd.ntmps19
  go_wp2_with fail
  refine (fields37_3 w).mono ?_
  rintro e w' ⟨rfl, rfl⟩
  go_wp2
  go_ret
  exact ⟨rfl, rfl⟩
set_option maxRecDepth 100000 in
theorem order19_4 (w : World) : Calls Tryd.prog 19 #[.int .i64 4] w fun e w' => e = .returned (sV (orderK 4)) ∧ w = w' := by
  go_enter Tryd.func19, Tryd.ntmps19
  go_wp2_with fail
  refine (fields37_4 w).mono ?_
  rintro e w' ⟨rfl, rfl⟩
  go_wp2
  go_ret
  exact ⟨rfl, rfl⟩
set_option maxRecDepth 100000 in
theorem order19_5 (w : World) : Calls Tryd.prog 19 #[.int .i64 5] w fun e w' => e = .returned (sV (orderK 5)) ∧ w = w' := by
  go_enter Tryd.func19, Tryd.ntmps19
  go_wp2_with fail
  refine (fields37_5 w).mono ?_
  rintro e w' ⟨rfl, rfl⟩
  go_wp2
  go_ret
  exact ⟨rfl, rfl⟩
set_option maxRecDepth 100000 in
theorem order19_6 (w : World) : Calls Tryd.prog 19 #[.int .i64 6] w fun e w' => e = .returned (sV (orderK 6)) ∧ w = w' := by
  go_enter Tryd.func19, Tryd.ntmps19
  go_wp2_with fail
  refine (fields37_6 w).mono ?_
  rintro e w' ⟨rfl, rfl⟩
  go_wp2
  go_ret
  exact ⟨rfl, rfl⟩
set_option maxRecDepth 100000 in
theorem order19_7 (w : World) : Calls Tryd.prog 19 #[.int .i64 7] w fun e w' => e = .returned (sV (orderK 7)) ∧ w = w' := by
  go_enter Tryd.func19, Tryd.ntmps19
  go_wp2_with fail
  refine (fields37_7 w).mono ?_
  rintro e w' ⟨rfl, rfl⟩
  go_wp2
  go_ret
  exact ⟨rfl, rfl⟩
set_option maxRecDepth 100000 in
theorem order19_8 (w : World) : Calls Tryd.prog 19 #[.int .i64 8] w fun e w' => e = .returned (sV (orderK 8)) ∧ w = w' := by
  go_enter Tryd.func19, Tryd.ntmps19
  go_wp2_with fail
  refine (fields37_8 w).mono ?_
  rintro e w' ⟨rfl, rfl⟩
  go_wp2
  go_ret
  exact ⟨rfl, rfl⟩
set_option maxRecDepth 100000 in
theorem order19_9 (w : World) : Calls Tryd.prog 19 #[.int .i64 9] w fun e w' => e = .returned (sV (orderK 9)) ∧ w = w' := by
  go_enter Tryd.func19, Tryd.ntmps19
  go_wp2_with fail
  refine (fields37_9 w).mono ?_
  rintro e w' ⟨rfl, rfl⟩
  go_wp2
  go_ret
  exact ⟨rfl, rfl⟩
set_option maxRecDepth 100000 in
theorem order19_10 (w : World) : Calls Tryd.prog 19 #[.int .i64 10] w fun e w' => e = .returned (sV (orderK 10)) ∧ w = w' := by
  go_enter Tryd.func19, Tryd.ntmps19
  go_wp2_with fail
  refine (fields37_10 w).mono ?_
  rintro e w' ⟨rfl, rfl⟩
  go_wp2
  go_ret
  exact ⟨rfl, rfl⟩
set_option maxRecDepth 100000 in
theorem order19_11 (w : World) : Calls Tryd.prog 19 #[.int .i64 11] w fun e w' => e = .returned (sV (orderK 11)) ∧ w = w' := by
  go_enter Tryd.func19, Tryd.ntmps19
  go_wp2
  go_ret
  exact ⟨rfl, rfl⟩
set_option maxRecDepth 100000 in
theorem order19_12 (w : World) : Calls Tryd.prog 19 #[.int .i64 12] w fun e w' => e = .returned (sV (orderK 12)) ∧ w = w' := by
  go_enter Tryd.func19, Tryd.ntmps19
  go_wp2_with fail
  refine (fields37_12 w).mono ?_
  rintro e w' ⟨rfl, rfl⟩
  go_wp2
  go_ret
  exact ⟨rfl, rfl⟩
set_option maxRecDepth 100000 in
theorem order19_13 (w : World) : Calls Tryd.prog 19 #[.int .i64 13] w fun e w' => e = .returned (sV (orderK 13)) ∧ w = w' := by
  go_enter Tryd.func19, Tryd.ntmps19
  go_wp2_with fail
  refine (fields37_13 w).mono ?_
  rintro e w' ⟨rfl, rfl⟩
  go_wp2
  go_ret
  exact ⟨rfl, rfl⟩
set_option maxRecDepth 100000 in
theorem order19_14 (w : World) : Calls Tryd.prog 19 #[.int .i64 14] w fun e w' => e = .returned (sV (orderK 14)) ∧ w = w' := by
  go_enter Tryd.func19, Tryd.ntmps19
  go_wp2_with fail
  refine (fields37_14 w).mono ?_
  rintro e w' ⟨rfl, rfl⟩
  go_wp2
  go_ret
  exact ⟨rfl, rfl⟩
set_option maxRecDepth 100000 in
theorem order19_15 (w : World) : Calls Tryd.prog 19 #[.int .i64 15] w fun e w' => e = .returned (sV (orderK 15)) ∧ w = w' := by
  go_enter Tryd.func19, Tryd.ntmps19
  go_wp2_with fail
  refine (fields37_15 w).mono ?_
  rintro e w' ⟨rfl, rfl⟩
  go_wp2
  go_ret
  exact ⟨rfl, rfl⟩
set_option maxRecDepth 100000 in
theorem order19_16 (w : World) : Calls Tryd.prog 19 #[.int .i64 16] w fun e w' => e = .returned (sV (orderK 16)) ∧ w = w' := by
  go_enter Tryd.func19, Tryd.ntmps19
  go_wp2_with fail
  refine (fields37_16 w).mono ?_
  rintro e w' ⟨rfl, rfl⟩
  go_wp2
  go_ret
  exact ⟨rfl, rfl⟩
set_option maxRecDepth 100000 in
theorem order19_17 (w : World) : Calls Tryd.prog 19 #[.int .i64 17] w fun e w' => e = .returned (sV (orderK 17)) ∧ w = w' := by
  go_enter Tryd.func19, Tryd.ntmps19
  go_wp2_with fail
  refine (fields37_17 w).mono ?_
  rintro e w' ⟨rfl, rfl⟩
  go_wp2
  go_ret
  exact ⟨rfl, rfl⟩
set_option maxRecDepth 100000 in
theorem order19_18 (w : World) : Calls Tryd.prog 19 #[.int .i64 18] w fun e w' => e = .returned (sV (orderK 18)) ∧ w = w' := by
  go_enter Tryd.func19, Tryd.ntmps19
  go_wp2_with fail
  refine (fields37_18 w).mono ?_
  rintro e w' ⟨rfl, rfl⟩
  go_wp2
  go_ret
  exact ⟨rfl, rfl⟩
set_option maxRecDepth 100000 in
theorem order19_19 (w : World) : Calls Tryd.prog 19 #[.int .i64 19] w fun e w' => e = .returned (sV (orderK 19)) ∧ w = w' := by
  go_enter Tryd.func19, Tryd.ntmps19
  go_wp2_with fail
  refine (fields37_19 w).mono ?_
  rintro e w' ⟨rfl, rfl⟩
  go_wp2
  go_ret
  exact ⟨rfl, rfl⟩
theorem order19_c (k : Nat) (hk : k < 20) (w : World) : Calls Tryd.prog 19 #[.int .i64 (k : Int)] w fun e w' => e = .returned (sV (orderK k)) ∧ w = w' := by
  rcases (by omega : k = 0 ∨ k = 1 ∨ k = 2 ∨ k = 3 ∨ k = 4 ∨ k = 5 ∨ k = 6 ∨ k = 7 ∨ k = 8 ∨ k = 9 ∨ k = 10 ∨ k = 11 ∨ k = 12 ∨ k = 13 ∨ k = 14 ∨ k = 15 ∨ k = 16 ∨ k = 17 ∨ k = 18 ∨ k = 19) with rfl | rfl | rfl | rfl | rfl | rfl | rfl | rfl | rfl | rfl | rfl | rfl | rfl | rfl | rfl | rfl | rfl | rfl | rfl | rfl
  · exact order19_0 w
  · exact order19_1 w
  · exact order19_2 w
  · exact order19_3 w
  · exact order19_4 w
  · exact order19_5 w
  · exact order19_6 w
  · exact order19_7 w
  · exact order19_8 w
  · exact order19_9 w
  · exact order19_10 w
  · exact order19_11 w
  · exact order19_12 w
  · exact order19_13 w
  · exact order19_14 w
  · exact order19_15 w
  · exact order19_16 w
  · exact order19_17 w
  · exact order19_18 w
  · exact order19_19 w
set_option maxRecDepth 100000 in
theorem name47_12 (w : World) : Calls Tryd.prog 47 #[.int .i64 12] w fun e w' => e = .returned (.tuple #[sV (nameK 12), sV (orderK 12)]) ∧ w = w' := by
  go_enter Tryd.func47, Tryd.ntmps47
  go_wp2
  go_ret2
  exact ⟨rfl, rfl⟩
set_option maxRecDepth 100000 in
theorem name47_13 (w : World) : Calls Tryd.prog 47 #[.int .i64 13] w fun e w' => e = .returned (.tuple #[sV (nameK 13), sV (orderK 13)]) ∧ w = w' := by
  go_enter Tryd.func47, Tryd.ntmps47
  go_wp2
  go_ret2
  exact ⟨rfl, rfl⟩
set_option maxRecDepth 100000 in
theorem name47_14 (w : World) : Calls Tryd.prog 47 #[.int .i64 14] w fun e w' => e = .returned (.tuple #[sV (nameK 14), sV (orderK 14)]) ∧ w = w' := by
  go_enter Tryd.func47, Tryd.ntmps47
  go_wp2
  go_ret2
  exact ⟨rfl, rfl⟩
set_option maxRecDepth 100000 in
theorem name47_15 (w : World) : Calls Tryd.prog 47 #[.int .i64 15] w fun e w' => e = .returned (.tuple #[sV (nameK 15), sV (orderK 15)]) ∧ w = w' := by
  go_enter Tryd.func47, Tryd.ntmps47
  go_wp2
  go_ret2
  exact ⟨rfl, rfl⟩
set_option maxRecDepth 100000 in
theorem name47_16 (w : World) : Calls Tryd.prog 47 #[.int .i64 16] w fun e w' => e = .returned (.tuple #[sV (nameK 16), sV (orderK 16)]) ∧ w = w' := by
  go_enter Tryd.func47, Tryd.ntmps47
  go_wp2
  go_ret2
  exact ⟨rfl, rfl⟩
set_option maxRecDepth 100000 in
theorem name47_17 (w : World) : Calls Tryd.prog 47 #[.int .i64 17] w fun e w' => e = .returned (.tuple #[sV (nameK 17), sV (orderK 17)]) ∧ w = w' := by
  go_enter Tryd.func47, Tryd.ntmps47
  go_wp2
  go_ret2
  exact ⟨rfl, rfl⟩
set_option maxRecDepth 100000 in
theorem name47_18 (w : World) : Calls Tryd.prog 47 #[.int .i64 18] w fun e w' => e = .returned (.tuple #[sV (nameK 18), sV (orderK 18)]) ∧ w = w' := by
  go_enter Tryd.func47, Tryd.ntmps47
  go_wp2
  go_ret2
  exact ⟨rfl, rfl⟩
set_option maxRecDepth 100000 in
theorem name47_19 (w : World) : Calls Tryd.prog 47 #[.int .i64 19] w fun e w' => e = .returned (.tuple #[sV (nameK 19), sV (orderK 19)]) ∧ w = w' := by
  go_enter Tryd.func47, Tryd.ntmps47
  go_wp2
  go_ret2
  exact ⟨rfl, rfl⟩
set_option maxRecDepth 100000 in
theorem name31_0 (w : World) : Calls Tryd.prog 31 #[.int .i64 0] w fun e w' => e = .returned (.tuple #[sV (nameK 0), sV (orderK 0)]) ∧ w = w' := by
  go_enter Tryd.func31, Tryd.ntmps31
  go_wp2
  go_ret2
  exact ⟨rfl, rfl⟩
set_option maxRecDepth 100000 in
theorem name31_1 (w : World) : Calls Tryd.prog 31 #[.int .i64 1] w fun e w' => e = .returned (.tuple #[sV (nameK 1), sV (orderK 1)]) ∧ w = w' := by
  go_enter Tryd.func31, Tryd.ntmps31
  go_wp2
  go_ret2
  exact ⟨rfl, rfl⟩
set_option maxRecDepth 100000 in
theorem name31_2 (w : World) : Calls Tryd.prog 31 #[.int .i64 2] w fun e w' => e = .returned (.tuple #[sV (nameK 2), sV (orderK 2)]) ∧ w = w' := by
  go_enter Tryd.func31, Tryd.ntmps31
  go_wp2
  go_ret2
  exact ⟨rfl, rfl⟩
set_option maxRecDepth 100000 in
theorem name31_3 (w : World) : Calls Tryd.prog 31 #[.int .i64 3] w fun e w' => e = .returned (.tuple #[sV (nameK 3), sV (orderK 3)]) ∧ w = w' := by
  go_enter Tryd.func31, Tryd.ntmps31
  go_wp2
  go_ret2
  exact ⟨rfl, rfl⟩
set_option maxRecDepth 100000 in
theorem name31_4 (w : World) : Calls Tryd.prog 31 #[.int .i64 4] w fun e w' => e = .returned (.tuple #[sV (nameK 4), sV (orderK 4)]) ∧ w = w' := by
  go_enter Tryd.func31, Tryd.ntmps31
  go_wp2
  go_ret2
  exact ⟨rfl, rfl⟩
set_option maxRecDepth 100000 in
theorem name31_5 (w : World) : Calls Tryd.prog 31 #[.int .i64 5] w fun e w' => e = .returned (.tuple #[sV (nameK 5), sV (orderK 5)]) ∧ w = w' := by
  go_enter Tryd.func31, Tryd.ntmps31
  go_wp2
  go_ret2
  exact ⟨rfl, rfl⟩
set_option maxRecDepth 100000 in
theorem name31_6 (w : World) : Calls Tryd.prog 31 #[.int .i64 6] w fun e w' => e = .returned (.tuple #[sV (nameK 6), sV (orderK 6)]) ∧ w = w' := by
  go_enter Tryd.func31, Tryd.ntmps31
  go_wp2
  go_ret2
  exact ⟨rfl, rfl⟩
set_option maxRecDepth 100000 in
theorem name31_7 (w : World) : Calls Tryd.prog 31 #[.int .i64 7] w fun e w' => e = .returned (.tuple #[sV (nameK 7), sV (orderK 7)]) ∧ w = w' := by
  go_enter Tryd.func31, Tryd.ntmps31
  go_wp2
  go_ret2
  exact ⟨rfl, rfl⟩
set_option maxRecDepth 100000 in
theorem name31_8 (w : World) : Calls Tryd.prog 31 #[.int .i64 8] w fun e w' => e = .returned (.tuple #[sV (nameK 8), sV (orderK 8)]) ∧ w = w' := by
  go_enter Tryd.func31, Tryd.ntmps31
  go_wp2
  go_ret2
  exact ⟨rfl, rfl⟩
set_option maxRecDepth 100000 in
theorem name31_9 (w : World) : Calls Tryd.prog 31 #[.int .i64 9] w fun e w' => e = .returned (.tuple #[sV (nameK 9), sV (orderK 9)]) ∧ w = w' := by
  go_enter Tryd.func31, Tryd.ntmps31
  go_wp2
  go_ret2
  exact ⟨rfl, rfl⟩
set_option maxRecDepth 100000 in
theorem name31_10 (w : World) : Calls Tryd.prog 31 #[.int .i64 10] w fun e w' => e = .returned (.tuple #[sV (nameK 10), sV (orderK 10)]) ∧ w = w' := by
  go_enter Tryd.func31, Tryd.ntmps31
  go_wp2
  go_ret2
  exact ⟨rfl, rfl⟩
set_option maxRecDepth 100000 in
theorem name31_11 (w : World) : Calls Tryd.prog 31 #[.int .i64 11] w fun e w' => e = .returned (.tuple #[sV (nameK 11), sV (orderK 11)]) ∧ w = w' := by
  go_enter Tryd.func31, Tryd.ntmps31
  go_wp2
  go_ret2
  exact ⟨rfl, rfl⟩
set_option maxRecDepth 100000 in
theorem name31_12 (w : World) : Calls Tryd.prog 31 #[.int .i64 12] w fun e w' => e = .returned (.tuple #[sV (nameK 12), sV (orderK 12)]) ∧ w = w' := by
  go_enter Tryd.func31, Tryd.ntmps31
  go_wp2_with fail
  refine (name47_12 w).mono ?_
  rintro e w' ⟨rfl, rfl⟩
  go_wp2
  go_ret2
  exact ⟨rfl, rfl⟩
set_option maxRecDepth 100000 in
theorem name31_13 (w : World) : Calls Tryd.prog 31 #[.int .i64 13] w fun e w' => e = .returned (.tuple #[sV (nameK 13), sV (orderK 13)]) ∧ w = w' := by
  go_enter Tryd.func31, Tryd.ntmps31
  go_wp2_with fail
  refine (name47_13 w).mono ?_
  rintro e w' ⟨rfl, rfl⟩
  go_wp2
  go_ret2
  exact ⟨rfl, rfl⟩
set_option maxRecDepth 100000 in
theorem name31_14 (w : World) : Calls Tryd.prog 31 #[.int .i64 14] w fun e w' => e = .returned (.tuple #[sV (nameK 14), sV (orderK 14)]) ∧ w = w' := by
  go_enter Tryd.func31, Tryd.ntmps31
  go_wp2_with fail
  refine (name47_14 w).mono ?_
  rintro e w' ⟨rfl, rfl⟩
  go_wp2
  go_ret2
  exact ⟨rfl, rfl⟩
set_option maxRecDepth 100000 in
theorem name31_15 (w : World) : Calls Tryd.prog 31 #[.int .i64 15] w fun e w' => e = .returned (.tuple #[sV (nameK 15), sV (orderK 15)]) ∧ w = w' := by
  go_enter Tryd.func31, Tryd.ntmps31
  go_wp2_with fail
  refine (name47_15 w).mono ?_
  rintro e w' ⟨rfl, rfl⟩
  go_wp2
  go_ret2
  exact ⟨rfl, rfl⟩
set_option maxRecDepth 100000 in
theorem name31_16 (w : World) : Calls Tryd.prog 31 #[.int .i64 16] w fun e w' => e = .returned (.tuple #[sV (nameK 16), sV (orderK 16)]) ∧ w = w' := by
  go_enter Tryd.func31, Tryd.ntmps31
  go_wp2_with fail
  refine (name47_16 w).mono ?_
  rintro e w' ⟨rfl, rfl⟩
  go_wp2
  go_ret2
  exact ⟨rfl, rfl⟩
set_option maxRecDepth 100000 in
theorem name31_17 (w : World) : Calls Tryd.prog 31 #[.int .i64 17] w fun e w' => e = .returned (.tuple #[sV (nameK 17), sV (orderK 17)]) ∧ w = w' := by
  go_enter Tryd.func31, Tryd.ntmps31
  go_wp2_with fail
  refine (name47_17 w).mono ?_
  rintro e w' ⟨rfl, rfl⟩
  go_wp2
  go_ret2
  exact ⟨rfl, rfl⟩
set_option maxRecDepth 100000 in
theorem name31_18 (w : World) : Calls Tryd.prog 31 #[.int .i64 18] w fun e w' => e = .returned (.tuple #[sV (nameK 18), sV (orderK 18)]) ∧ w = w' := by
  go_enter Tryd.func31, Tryd.ntmps31
  go_wp2_with fail
  refine (name47_18 w).mono ?_
  rintro e w' ⟨rfl, rfl⟩
  go_wp2
  go_ret2
  exact ⟨rfl, rfl⟩
set_option maxRecDepth 100000 in
theorem name31_19 (w : World) : Calls Tryd.prog 31 #[.int .i64 19] w fun e w' => e = .returned (.tuple #[sV (nameK 19), sV (orderK 19)]) ∧ w = w' := by
  go_enter Tryd.func31, Tryd.ntmps31
  go_wp2_with fail
  refine (name47_19 w).mono ?_
  rintro e w' ⟨rfl, rfl⟩
  go_wp2
  go_ret2
  exact ⟨rfl, rfl⟩
theorem name31_c (k : Nat) (hk : k < 20) (w : World) : Calls Tryd.prog 31 #[.int .i64 (k : Int)] w fun e w' => e = .returned (.tuple #[sV (nameK k), sV (orderK k)]) ∧ w = w' := by
  rcases (by omega : k = 0 ∨ k = 1 ∨ k = 2 ∨ k = 3 ∨ k = 4 ∨ k = 5 ∨ k = 6 ∨ k = 7 ∨ k = 8 ∨ k = 9 ∨ k = 10 ∨ k = 11 ∨ k = 12 ∨ k = 13 ∨ k = 14 ∨ k = 15 ∨ k = 16 ∨ k = 17 ∨ k = 18 ∨ k = 19) with rfl | rfl | rfl | rfl | rfl | rfl | rfl | rfl | rfl | rfl | rfl | rfl | rfl | rfl | rfl | rfl | rfl | rfl | rfl | rfl
  · exact name31_0 w
  · exact name31_1 w
  · exact name31_2 w
  · exact name31_3 w
  · exact name31_4 w
  · exact name31_5 w
  · exact name31_6 w
  · exact name31_7 w
  · exact name31_8 w
  · exact name31_9 w
  · exact name31_10 w
  · exact name31_11 w
  · exact name31_12 w
  · exact name31_13 w
  · exact name31_14 w
  · exact name31_15 w
  · exact name31_16 w
  · exact name31_17 w
  · exact name31_18 w
  · exact name31_19 w
def numOk (x : Int) (b : Bool) : Bool := decide (0 ≤ x ∧ x ≤ 65535) && (b || decide (x = 0))
def numIn (x : Int) : Bool := decide (0 ≤ x ∧ x ≤ 65535)
def hasK (k : Nat) (c : UInt8) : Bool := (fieldsK k).contains c
set_option maxRecDepth 100000 in
theorem num44_c (x : Int) (w : World) : Calls Tryd.prog 44 #[.int .i64 x] w fun e w' => e = .returned (.bool (numIn x)) ∧ w = w' := by
  by_cases h1 : x ≥ 0
  · have d1 : decide (x ≥ 0) = true := by simpa using h1
    by_cases h2 : x ≤ 65535
    · have d2 : decide (x ≤ 65535) = true := by simpa using h2
      have HV : Hid (numIn x = true) := by show _ = _; unfold numIn; simp; omega
      go_enter Tryd.func44, Tryd.ntmps44
      go_wp2
      go_ret
      exact ⟨by rw [HV.out]; rfl, rfl⟩
    · have d2 : decide (x ≤ 65535) = false := by simpa using h2
      have HV : Hid (numIn x = false) := by show _ = _; unfold numIn; simp; omega
      go_enter Tryd.func44, Tryd.ntmps44
      go_wp2
      go_ret
      exact ⟨by rw [HV.out]; rfl, rfl⟩
  · have d1 : decide (x ≥ 0) = false := by simpa using h1
    have HV : Hid (numIn x = false) := by show _ = _; unfold numIn; simp; omega
    go_enter Tryd.func44, Tryd.ntmps44
    go_wp2
    go_ret
    exact ⟨by rw [HV.out]; rfl, rfl⟩
set_option maxRecDepth 100000 in
theorem num35_c (x : Int) (b : Bool) (w : World) : Calls Tryd.prog 35 #[.int .i64 x, .bool b] w fun e w' => e = .returned (.bool (numOk x b)) ∧ w = w' := by
  by_cases h1 : x ≥ 0
  · have d1 : decide (x ≥ 0) = true := by simpa using h1
    by_cases h2 : x ≤ 65535
    · have d2 : decide (x ≤ 65535) = true := by simpa using h2
      cases b with
      | true =>
        have HV : Hid (numOk x true = true) := by show _ = _; unfold numOk; simp; omega
        go_enter Tryd.func35, Tryd.ntmps35
        go_wp2
        go_ret
        exact ⟨by rw [HV.out]; rfl, rfl⟩
      | false =>
        by_cases h3 : x = 0
        · have HV : Hid (numOk x false = true) := by show _ = _; unfold numOk; simp; omega
          subst h3
          go_enter Tryd.func35, Tryd.ntmps35
          go_wp2
          go_ret
          exact ⟨by rw [HV.out]; rfl, rfl⟩
        · have d3 : decide (x = 0) = false := by simpa using h3
          have d4 : (x == 0) = false := by simpa using h3
          have HV : Hid (numOk x false = false) := by show _ = _; unfold numOk; simp; omega
          go_enter Tryd.func35, Tryd.ntmps35
          go_wp2
          go_ret
          exact ⟨by rw [HV.out]; rfl, rfl⟩
    · have d2 : decide (x ≤ 65535) = false := by simpa using h2
      have HV : Hid (numOk x b = false) := by show _ = _; unfold numOk; rw [show decide (0 ≤ x ∧ x ≤ 65535) = false by simp; omega]; rfl
      go_enter Tryd.func35, Tryd.ntmps35
      go_wp2
      go_ret
      exact ⟨by rw [HV.out]; rfl, rfl⟩
  · have d1 : decide (x ≥ 0) = false := by simpa using h1
    have HV : Hid (numOk x b = false) := by show _ = _; unfold numOk; rw [show decide (0 ≤ x ∧ x ≤ 65535) = false by simp; omega]; rfl
    go_enter Tryd.func35, Tryd.ntmps35
    go_wp2
    go_ret
    exact ⟨by rw [HV.out]; rfl, rfl⟩
theorem contains_hit {l : List UInt8} {i : Nat} {c : UInt8} (hi : i < l.length) (h : (l.getD i 0).toNat = c.toNat) : l.contains c = true := by
  rw [List.getD_eq_getElem?_getD, List.getElem?_eq_getElem hi] at h
  have e : l[i] = c := UInt8.toNat_inj.1 h
  rw [List.contains_iff_mem, ← e]
  exact List.getElem_mem _
theorem contains_miss {l : List UInt8} {c : UInt8} (h : ∀ i, i < l.length → (l.getD i 0).toNat ≠ c.toNat) : l.contains c = false := by
  rw [Bool.eq_false_iff]
  intro hc
  rw [List.contains_iff_mem] at hc
  obtain ⟨i, hi, rfl⟩ := List.getElem_of_mem hc
  refine h i hi ?_
  rw [List.getD_eq_getElem?_getD, List.getElem?_eq_getElem hi]
  rfl
theorem fields_len (k : Nat) : (fieldsK k).length ≤ 3 := by
  unfold fieldsK
  split <;> decide
set_option maxRecDepth 100000 in
theorem has_c (k : Nat) (hk : k < 20) (c : UInt8) (cn : Nat) (hcn : cn = c.toNat) (w : World) : Calls Tryd.prog 36 #[.int .i64 (k : Int), .int .u8 (cn : Int)] w fun e w' => e = .returned (.bool (hasK k c)) ∧ w = w' := by
  have HF := Lib.hid (fields37_c k hk w)
  have HCN := Lib.hid hcn
  obtain ⟨l, hl⟩ : ∃ l, l = fieldsK k := ⟨_, rfl⟩
  rw [← hl] at HF
  have HH : Hid (hasK k c = l.contains c) := by show _ = _; rw [hl]; rfl
  have h3 := fields_len k
  rw [← hl] at h3
  obtain ⟨n, hn⟩ : ∃ n, n = l.length := ⟨_, rfl⟩
  have HN : Hid (n = l.length ∧ n ≤ 3) := ⟨hn, by omega⟩
  have hlx : l.length = n := hn.symm
  clear hl hcn h3 hn
  go_enter Tryd.func36, Tryd.ntmps36
  go_wp2_with fail
  refine HF.out.mono ?_
  rintro e w1 ⟨rfl, rfl⟩
  go_wp2
  go_loop [6] (fun vi => ∃ i : Nat, i ≤ n ∧ vi = .int .i64 (i : Int) ∧ Hid (∀ j, j < i → (l.getD j 0).toNat ≠ c.toNat)) (fun vi => n - (intOf vi).toNat)
  case atStart => exact ⟨0, by omega, rfl, fun j h => by omega⟩
  case round =>
    obtain ⟨i, hi, rfl, hall⟩ := hrel
    by_cases hlt : i < n
    · have hd : decide ((i : Int) < (n : Int)) = true := by simp; omega
      have dl : (i : Int) < (n : Int) := by omega
      have hix := fun w : World => run_index_sV w 9 l i Tryd.underlying9 (by rw [hlx]; exact hlt)
      obtain ⟨p, hp⟩ : ∃ p, p = (l.getD i 0).toNat := ⟨_, rfl⟩
      rw [← hp] at hix
      have HI := Lib.hid hlt
      have ek : IntKind.i64.wrap ((i : Int) + 1) = (i : Int) + 1 := by have := HN.out.2; exact IntWalk.i64_in _ (by omega)
      by_cases he : p = cn
      · have HT : Hid (hasK k c = true) := by
          show _ = _
          rw [HH.out]; exact contains_hit (i := i) (by rw [hlx]; exact hlt) (by rw [← hp, he, HCN.out])
        subst he
        clear hp
        go_wp2
        go_ret
        exact ⟨by rw [HT.out]; rfl, rfl⟩
      · have de : decide ((p : Int) = (cn : Int)) = false := by simp; omega
        have de2 : ((p : Int) == (cn : Int)) = false := by simp; omega
        have hne : ¬ (p : Int) = (cn : Int) := by omega
        have HALL : Hid (∀ j, j < i + 1 → (l.getD j 0).toNat ≠ c.toNat) := fun j hj => by
          rcases Nat.lt_or_eq_of_le (Nat.le_of_lt_succ hj) with h | h
          · exact hall.out j h
          · subst h; rw [← hp, ← HCN.out]; exact he
        clear hp he
        go_wp2
        go_round
        case rel => exact ⟨i + 1, by have := HI.out; omega, by go_num, HALL.out⟩
        case measure => simp [intOf]; have := HI.out; omega
    · have hd : decide ((i : Int) < (n : Int)) = false := by simp; omega
      have dl : ¬ (i : Int) < (n : Int) := by omega
      have HT : Hid (hasK k c = false) := by
        show _ = _
        rw [HH.out]; exact contains_miss (fun j hj => hall.out j (by rw [hlx] at hj; omega))
      go_wp2
      go_ret
      exact ⟨by rw [HT.out]; rfl, rfl⟩
end Go.Proofs.YteennbdakjjcfaaDoor
