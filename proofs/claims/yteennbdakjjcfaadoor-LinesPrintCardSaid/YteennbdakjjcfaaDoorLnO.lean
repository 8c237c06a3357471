/- A line in memory: the next word, one of two words; what a sign's word does to an act. Printed by gen_lno.py. -/
import Derived.Test.YteennbdakjjcfaaDoorLnN
set_option linter.unusedVariables false
set_option linter.unusedSimpArgs false
namespace Go.Proofs.YteennbdakjjcfaaDoor
open Go Go.RowKit Go.Lib
theorem run_subS (g o len cap l : Nat) (hl : l ≤ len) (w : World) :
    (Instr.sliceAt 23 (.slice (some ⟨g, o, none⟩) len cap) (some (.int .i64 (l : Int))) none none).run Tryd.prog w = .ok (.slice (some ⟨g, subO o cap l, none⟩) (len - l) (cap - l)) w := by
  obtain ⟨i0, hi, hz0, hz1, hz2⟩ := info_parts strinfo
  have he : Tryd.prog.elem 23 = 9 := by kernel_rfl
  have hu : Tryd.prog.underlying 23 = some (.slice (Tryd.prog.elem 23)) := by rw [he]; exact Tryd.underlying23
  rw [run_sliceAt_slice (h := hu), run_slice_l (ht := hu) (h0 := by omega) (h1 := by omega)]
  rw [he, run_sizeOf (w := w) hi, show Tryd.prog.cellsOf 9 = 1 from (by kernel_rfl)]
  simp only [Result.andThen_ok, sliced, Int.toNat_natCast, Nat.mul_one]
  unfold subO
  split
  · rfl
  · simp only [Option.map_some]; rw [add_plain]
theorem wpList_subS {w : World} {ops : Array Oper} {rest : List Oper} {op : Oper} {A : Act} {Q : Exit → Act → World → Prop} (hgd : op.guard = none) {g o len cap l : Nat} (x y : Operand) (ho : op.op = .slice 23 x (some y) none none) (hx : A.eval x = .slice (some ⟨g, o, none⟩) len cap) (hy : A.eval y = .int .i64 (l : Int))
    (hl : l ≤ len) (hK : wpList Tryd.prog ops Q rest (A.put op.dst (.slice (some ⟨g, subO o cap l, none⟩) (len - l) (cap - l))) w) : wpList Tryd.prog ops Q (op :: rest) A w :=
  wpList_plain hgd fun _ hk => by
    unfold Oper.wp
    have : (execOp A.eval op).run Tryd.prog w = .ok (.value (.slice (some ⟨g, subO o cap l, none⟩) (len - l) (cap - l))) w := by
      unfold execOp
      simp only [ho, Option.map_some, Option.map_none, hx, hy, Sem.run_bind, run_subS g o len cap l hl w, Result.andThen_ok]
      rfl
    rw [this]
    exact hk _ _ hK
theorem StrB.tail {w : World} {B g o n cap : Nat} {x : List UInt8} {ws : List (List UInt8)} (h : StrB w B (.slice (some ⟨g, o, none⟩) n cap) (x :: ws)) : StrB w B (.slice (some ⟨g, subO o cap 1, none⟩) (n - 1) (cap - 1)) ws := by
  obtain ⟨a, c, h1, h2, h3, h4, h5⟩ := h
  injection h1 with e1 e2 e3
  subst e1 e3
  rw [List.length_cons] at h2 e2
  have hb := h4 _ rfl
  refine ⟨_, cap - 1, by rw [e2]; rfl, by omega, by unfold maxLen at *; omega, fun p hp => by cases hp; exact ⟨hb.1, rfl⟩, fun i l hl => ?_⟩
  have hi : i < ws.length := (List.getElem?_eq_some_iff.1 hl).1
  obtain ⟨g', o', e4, h6⟩ := h5 (i + 1) l (by rw [List.getElem?_cons_succ]; exact hl)
  cases e4
  have hs : subO o cap 1 = o + 1 := by unfold subO; rw [if_neg (by omega)]
  refine ⟨g, o + 1, by rw [hs], ?_⟩
  rw [Nat.add_assoc, Nat.add_comm 1 i]
  exact h6
set_option maxRecDepth 100000 in
set_option maxHeartbeats 2000000 in
theorem next_c (lb : Nat) (ws : List (List UInt8)) (bad : Bool) (w : World) (h : LineIs w lb ws bad) :
    Calls Tryd.prog 40 #[.pointer (some ⟨lb, 0, none⟩)] w fun e w' => e = .returned (sV (ws.headD [])) ∧ LineIs w' lb ws.tail (bad || ws.isEmpty) ∧ Save lb lb w w' := by
  obtain ⟨v, hblk, hs⟩ := h
  obtain ⟨a, cap, hv, hcap, hcm, hab, hcells⟩ := id hs
  cases ws with
  | nil =>
    have hn : v = .slice a 0 cap := hv
    subst hn
    have c0 := (cells_at hblk 0).trans (show _ = some (Value.slice a 0 cap) from rfl)
    have c1 := (cells_at hblk 1).trans (show _ = some (Value.bool bad) from rfl)
    have f1 := free_at hblk 1
    have nb := block_at hblk 1 (.bool true)
    have NB : Hid ((w.setCell ⟨lb, 1, none⟩ (.bool true)).heap[lb]? = some (.cells #[.slice a 0 cap, .bool true] 58 (0, 0))) := nb
    have HS := Lib.hid hs
    clear hblk hs nb hcap hcm hab hcells hv
    go_enter Tryd.func40, Tryd.ntmps40
    go_wp2
    go_ret
    exact ⟨rfl, ⟨_, by cases bad <;> exact NB.out, HS.out.up (Save.cell _ _ _ _).1⟩, Save.cell _ _ _ _⟩
  | cons x ws =>
    obtain ⟨g, o, ha, hx0⟩ := hcells 0 x rfl
    subst ha
    obtain ⟨n, hn⟩ : ∃ n, n = (x :: ws).length := ⟨_, rfl⟩
    rw [← hn] at hv
    subst hv
    have hn1 : 1 ≤ n := by rw [hn, List.length_cons]; omega
    have c0 := (cells_at hblk 0).trans (show _ = some (Value.slice (some ⟨g, o, none⟩) n cap) from rfl)
    have f0 := free_at hblk 0
    have hx1 : w.cell? ⟨g, o, none⟩ = some (sV x) := hx0
    have z0 : ((n : Int) == 0) = false := by simp; omega
    have z1 : ¬ (n : Int) = 0 := by omega
    have z2 : (0 : Int) < (n : Int) := by omega
    have nb := block_at hblk 0 (.slice (some ⟨g, subO o cap 1, none⟩) (n - 1) (cap - 1))
    have NB : Hid ((w.setCell ⟨lb, 0, none⟩ (.slice (some ⟨g, subO o cap 1, none⟩) (n - 1) (cap - 1))).heap[lb]? = some (.cells #[.slice (some ⟨g, subO o cap 1, none⟩) (n - 1) (cap - 1), .bool bad] 58 (0, 0))) := nb
    have HS := Lib.hid hs.tail
    have HN1 := Lib.hid hn1
    clear hblk hs nb hcap hcm hab hcells hx0 hn hn1
    go_enter Tryd.func40, Tryd.ntmps40
    go_wp2_with (first
      | (refine wpList_subS rfl (.tmp 23) (.const (.int .i64 1)) (l := 1) rfl rfl rfl HN1.out ?_)
      | fail)
    go_ret
    exact ⟨rfl, ⟨_, by cases bad <;> exact NB.out, HS.out.up (Save.cell _ _ _ _).1⟩, Save.cell _ _ _ _⟩
def readW : List UInt8 := [114, 101, 97, 100]
def writeW : List UInt8 := [119, 114, 105, 116, 101]
def noneW : List UInt8 := [110, 111, 110, 101]
set_option maxRecDepth 100000 in
set_option maxHeartbeats 2000000 in
theorem either_c (lb : Nat) (x : List UInt8) (ws : List (List UInt8)) (bad : Bool) (w : World) (h : LineIs w lb ws bad) :
    Calls Tryd.prog 57 #[.pointer (some ⟨lb, 0, none⟩), sV x, sV readW, sV writeW] w fun e w' => e = .returned (.bool (decide (x = writeW))) ∧ LineIs w' lb ws (bad || !(decide (x = readW) || decide (x = writeW))) ∧ Save lb lb w w' := by
  have HF := Lib.hid (fail_c lb ws bad w h)
  have HH := Lib.hid h
  clear h
  obtain ⟨R, hR⟩ : ∃ R, R = readW := ⟨_, rfl⟩
  obtain ⟨U, hU⟩ : ∃ U, U = writeW := ⟨_, rfl⟩
  rw [← hR, ← hU]
  clear hR hU
  by_cases h1 : x = R
  · have d1 : decide (x = R) = true := by simpa using h1
    have HD := Lib.hid d1
    clear h1
    obtain ⟨b, hb⟩ : ∃ b, b = decide (x = U) := ⟨_, rfl⟩
    have HB := Lib.hid hb
    clear hb
    go_enter Tryd.func57, Tryd.ntmps57
    go_wp2
    go_ret
    exact ⟨rfl, by rw [HD.out]; cases bad <;> exact HH.out, Save.refl _ _ _⟩
  · have d1 : decide (x = R) = false := by simpa using h1
    by_cases h2 : x = U
    · have d2 : decide (x = U) = true := by simpa using h2
      have HD := Lib.hid (And.intro d1 d2)
      rw [d2]
      clear h1 h2
      go_enter Tryd.func57, Tryd.ntmps57
      go_wp2
      go_ret
      exact ⟨rfl, by rw [HD.out.1]; cases bad <;> exact HH.out, Save.refl _ _ _⟩
    · have d2 : decide (x = U) = false := by simpa using h2
      have HD := Lib.hid (And.intro d1 d2)
      rw [d2]
      go_enter Tryd.func57, Tryd.ntmps57
      go_wp2_with fail
      refine HF.out.mono ?_
      rintro e w1 ⟨rfl, hl1, hs1⟩
      have HL1 := Lib.hid hl1
      have HS1 := Lib.hid hs1
      clear hl1 hs1
      go_wp2
      go_ret
      exact ⟨rfl, by rw [HD.out.1]; cases bad <;> exact HL1.out, HS1.out⟩
/-- what a sign's word does to an act -/
def takeN (a : AN) (c : Nat) (x : List UInt8) : Option AN := match c with
  | 119 => (numW x).map fun (v : Nat) => { a with which := (v : Int) }
  | 107 => (numW x).map fun (v : Nat) => { a with k := (v : Int) }
  | 110 => (numW x).map fun (v : Nat) => { a with n := (v : Int) }
  | 97 => (numW x).map fun (v : Nat) => { a with at_ := (v : Int) }
  | 98 => (hexW x).map fun v => { a with b := v }
  | 111 => if decide (x = readW) || decide (x = writeW) then some { a with yes := decide (x = writeW) } else none
  | 115 => if x = noneW then some { a with yes := true } else (numW x).map fun (v : Nat) => { a with yes := false, which := (v : Int) }
  | _ => some a
def stepN (s : Option (AN × List (List UInt8))) (c : Nat) : Option (AN × List (List UInt8)) := s.bind fun p => match p.2 with
  | [] => none
  | x :: ws => (takeN p.1 c x).map fun a => (a, ws)
def stN (bad : Bool) (a : AN) (ws : List (List UInt8)) : Option (AN × List (List UInt8)) := if bad then none else some (a, ws)
theorem step_of (bad : Bool) (a : AN) (ws : List (List UInt8)) (c : Nat) (a' : AN) (b2 : Bool)
    (h : ∀ x, takeN a c x = none → ws.headD [] = x → b2 = true) (h' : ∀ x a2, ws.headD [] = x → takeN a c x = some a2 → b2 = false ∧ a' = a2) :
    stepN (stN bad a ws) c = stN ((bad || ws.isEmpty) || b2) a' ws.tail := by
  cases bad with
  | true => rfl
  | false =>
    cases ws with
    | nil => rfl
    | cons x ws =>
      show (takeN a c x).map (fun a => (a, ws)) = _
      cases ht : takeN a c x with
      | none => rw [h x ht rfl]; rfl
      | some a2 => obtain ⟨e1, e2⟩ := h' x a2 rfl ht; rw [e1, e2]; rfl
end Go.Proofs.YteennbdakjjcfaaDoor
