/- A word of hex signs: the line's bytes, the reference's digit and bytes. Printed by gen_lnd.py. -/
import Derived.Test.YteennbdakjjcfaaDoorLnC
set_option linter.unusedVariables false
set_option linter.unusedSimpArgs false
namespace Go.Proofs.YteennbdakjjcfaaDoor
open Go Go.RowKit Go.Lib
def hexN (c : Nat) : Option Nat := if 48 ≤ c ∧ c ≤ 57 then some (c - 48) else if 97 ≤ c ∧ c ≤ 102 then some (c - 87) else none
def hexD (c : UInt8) : Option Nat := hexN c.toNat
theorem hexN_lt {c x : Nat} (h : hexN c = some x) : x < 16 := by
  unfold hexN at h
  split at h
  · cases h; omega
  · split at h
    · cases h; omega
    · cases h
def dig (o : Option Nat) : Int := match o with
  | some d => (d : Int)
  | none => -1
def hexP : List UInt8 → Option (List Nat)
  | [] => some []
  | [_] => none
  | a :: b :: l => match hexD a, hexD b with
    | some x, some y => (hexP l).map (fun r => (16 * x + y) :: r)
    | _, _ => none
def hexW (x : List UInt8) : Option (List Nat) := if x = [45] then some [] else if x = [] then none else hexP x
theorem hexP_odd : ∀ (n : Nat) (x : List UInt8), x.length = 2 * n + 1 → hexP x = none
  | 0, [a], _ => rfl
  | 0, [], h => by simp at h
  | 0, _ :: _ :: _, h => by simp at h
  | n + 1, [], h => by simp at h
  | n + 1, [a], h => by simp at h
  | n + 1, a :: b :: l, h => by
    have ih := hexP_odd n l (by simp at h; omega)
    unfold hexP
    rw [ih]
    cases hexD a <;> cases hexD b <;> rfl
theorem drop_two (x : List UInt8) (i : Nat) (h : i + 1 < x.length) : x.drop i = x.getD i 0 :: x.getD (i + 1) 0 :: x.drop (i + 2) := by
  rw [List.drop_eq_getElem_cons (by omega), List.drop_eq_getElem_cons h, List.getD_eq_getElem?_getD, List.getD_eq_getElem?_getD, List.getElem?_eq_getElem (by omega), List.getElem?_eq_getElem h]
  rfl
theorem hexP_step {x : List UInt8} {i u v : Nat} (h : i + 1 < x.length) (hu : hexN (x.getD i 0).toNat = some u) (hv : hexN (x.getD (i + 1) 0).toNat = some v) : hexP (x.drop i) = (hexP (x.drop (i + 2))).map (fun r => (16 * u + v) :: r) := by
  rw [drop_two x i h]
  conv => lhs; unfold hexP
  unfold hexD
  rw [hu, hv]
theorem hexP_bad {x : List UInt8} {i : Nat} (h : i + 1 < x.length) (hb : hexN (x.getD i 0).toNat = none ∨ hexN (x.getD (i + 1) 0).toNat = none) : hexP (x.drop i) = none := by
  rw [drop_two x i h]
  unfold hexP hexD
  rcases hb with hb | hb
  · rw [hb]
  · rw [hb]
    cases hexN (x.getD i 0).toNat <;> rfl
def hexSigns : List UInt8 := [48, 49, 50, 51, 52, 53, 54, 55, 56, 57, 97, 98, 99, 100, 101, 102]
theorem index_hex : ∀ c : Nat, c < 256 → indexByte hexSigns (UInt8.ofNat c) = dig (hexN c) := by decide +kernel
theorem or16 : ∀ x : Nat, x < 16 → ∀ y : Nat, y < 16 → bits BinOp.or IntKind.i64 ((16 * x : Nat) : Int) (y : Int) = ((16 * x + y : Nat) : Int) := by decide +kernel
theorem dig_neg (o : Option Nat) : decide (dig o < 0) = o.isNone := by
  cases o with
  | none => rfl
  | some d => show decide ((d : Int) < 0) = false; simp
set_option maxRecDepth 100000 in
theorem ib_c (c : Nat) (hc : c < 256) (w : World) : Calls Tryd.prog 70 #[sV hexSigns, .int .u8 (c : Int)] w fun e w' => e = .returned (.int .i64 (dig (hexN c))) ∧ w = w' := by
  have h : Calls Tryd.prog 65 #[sV hexSigns, .int .u8 (c : Int)] w fun e w' => e = .returned (.int .i64 (dig (hexN c))) ∧ w = w' := by
    rw [← index_hex c hc]
    exact Calls.mono (Any.stringslite_IndexByte { lays146 with } ⟨hexSigns.toArray⟩ (c : Int) w) (fun e w' h => ⟨h.1, h.2.symm⟩)
  have H := Lib.hid h
  clear h hc
  go_enter Tryd.func70, Tryd.ntmps70
  go_wp2_with fail
  refine H.out.mono ?_
  rintro e w' ⟨rfl, rfl⟩
  go_wp2
  go_ret
  exact ⟨rfl, rfl⟩
set_option maxRecDepth 100000 in
theorem digit_c (c : Nat) (hc : c < 256) (w : World) : Calls Tryd.prog 58 #[.int .u8 (c : Int)] w fun e w' => e = .returned (.int .i64 (dig (hexN c))) ∧ w = w' := by
  by_cases h1 : c < 48
  · have HV : Hid (hexN c = none) := by show _ = _; unfold hexN; rw [if_neg (by omega), if_neg (by omega)]
    have d1 : decide ((c : Int) ≥ 48) = false := by simp; omega
    have d2 : decide ((c : Int) ≥ 97) = false := by simp; omega
    have i1 : ¬ (48 : Int) ≤ (c : Int) := by omega
    have i2 : ¬ (97 : Int) ≤ (c : Int) := by omega
    go_enter Tryd.func58, Tryd.ntmps58
    go_wp2
    go_ret
    exact ⟨by rw [HV.out]; rfl, rfl⟩
  · have d1 : decide ((c : Int) ≥ 48) = true := by simp; omega
    have i1 : (48 : Int) ≤ (c : Int) := by omega
    by_cases h2 : c ≤ 57
    · have HV : Hid (hexN c = some (c - 48)) := by show _ = _; unfold hexN; rw [if_pos (by omega)]
      have d2 : decide ((c : Int) ≤ 57) = true := by simp; omega
      have i2 : (c : Int) ≤ 57 := by omega
      obtain ⟨d, hd⟩ : ∃ d, d = c - 48 := ⟨_, rfl⟩
      rw [← hd] at HV
      have e1 : IntKind.u8.wrap ((c : Int) - 48) = (d : Int) := by rw [IntKind.wrap_u8]; omega
      have e2 : IntKind.i64.wrap (d : Int) = (d : Int) := IntWalk.i64_in _ (by omega)
      clear hd
      go_enter Tryd.func58, Tryd.ntmps58
      go_wp2
      go_ret
      exact ⟨by rw [HV.out]; rfl, rfl⟩
    · have d2 : decide ((c : Int) ≤ 57) = false := by simp; omega
      have i2 : ¬ (c : Int) ≤ 57 := by omega
      by_cases h3 : c < 97
      · have HV : Hid (hexN c = none) := by show _ = _; unfold hexN; rw [if_neg (by omega), if_neg (by omega)]
        have d3 : decide ((c : Int) ≥ 97) = false := by simp; omega
        have i3 : ¬ (97 : Int) ≤ (c : Int) := by omega
        go_enter Tryd.func58, Tryd.ntmps58
        go_wp2
        go_ret
        exact ⟨by rw [HV.out]; rfl, rfl⟩
      · have d3 : decide ((c : Int) ≥ 97) = true := by simp; omega
        have i3 : (97 : Int) ≤ (c : Int) := by omega
        by_cases h4 : c ≤ 102
        · have HV : Hid (hexN c = some (c - 87)) := by show _ = _; unfold hexN; rw [if_neg (by omega), if_pos (by omega)]
          have d4 : decide ((c : Int) ≤ 102) = true := by simp; omega
          have i4 : (c : Int) ≤ 102 := by omega
          obtain ⟨d, hd⟩ : ∃ d, d = c - 97 := ⟨_, rfl⟩
          obtain ⟨d2_, hd2⟩ : ∃ x, x = c - 87 := ⟨_, rfl⟩
          rw [← hd2] at HV
          have e1 : IntKind.u8.wrap ((c : Int) - 97) = (d : Int) := by rw [IntKind.wrap_u8]; omega
          have e2 : IntKind.i64.wrap (d : Int) = (d : Int) := IntWalk.i64_in _ (by omega)
          have e3 : IntKind.i64.wrap ((d : Int) + 10) = (d2_ : Int) := by rw [IntWalk.i64_in _ (by omega)]; omega
          clear hd hd2
          go_enter Tryd.func58, Tryd.ntmps58
          go_wp2
          go_ret
          exact ⟨by rw [HV.out]; rfl, rfl⟩
        · have HV : Hid (hexN c = none) := by show _ = _; unfold hexN; rw [if_neg (by omega), if_neg (by omega)]
          have d4 : decide ((c : Int) ≤ 102) = false := by simp; omega
          have i4 : ¬ (c : Int) ≤ 102 := by omega
          go_enter Tryd.func58, Tryd.ntmps58
          go_wp2
          go_ret
          exact ⟨by rw [HV.out]; rfl, rfl⟩
theorem slice_nil_own (w : World) (base : Nat) : w.ownsRow base 5 1 (.slice none 0 0) 0 (bA []).toList := World.ownsRow_nil _ _ _ _
end Go.Proofs.YteennbdakjjcfaaDoor
