/- What a sign stands for: take. Printed by gen_lnp.py. -/
import Derived.Test.YteennbdakjjcfaaDoorLnO
set_option linter.unusedVariables false
set_option linter.unusedSimpArgs false
namespace Go.Proofs.YteennbdakjjcfaaDoor
open Go Go.RowKit Go.Lib
theorem hexP_lt : ∀ (n : Nat) (x : List UInt8), x.length ≤ n → ∀ r, hexP x = some r → ∀ y ∈ r, y < 256
  | _, [], _, r, h, y, hy => by cases h; cases hy
  | _, [_], _, r, h, y, hy => by cases h
  | 0, _ :: _ :: _, hn, r, h, y, hy => by simp at hn
  | n + 1, c :: d :: x, hn, r, h, y, hy => by
    unfold hexP at h
    cases hu : hexD c with
    | none => rw [hu] at h; simp at h
    | some u =>
      cases hv : hexD d with
      | none => rw [hu, hv] at h; simp at h
      | some v =>
        cases ht : hexP x with
        | none => rw [hu, hv, ht] at h; simp at h
        | some t =>
          rw [hu, hv, ht] at h
          simp at h
          subst h
          rcases List.mem_cons.1 hy with rfl | hy
          · have h1 := hexN_lt hu
            have h2 := hexN_lt hv
            omega
          · exact hexP_lt n x (by simp at hn; omega) t ht y hy
theorem hexR_lt (x : List UInt8) : ∀ y ∈ hexR x, y < 256 := by
  intro y hy
  unfold hexR at hy
  cases h : hexW x with
  | none => rw [h] at hy; simp at hy
  | some r =>
    rw [h] at hy
    unfold hexW at h
    split at h
    · cases h; simp at hy
    · split at h
      · cases h
      · exact hexP_lt _ x (Nat.le_refl _) r h y hy
/-- an act in memory; its bytes lie behind it -/
def ActAt (w : World) (ab : Nat) (a : AN) : Prop := ∃ va vc, w.heap[ab]? = some (.cells (actA a (.slice va a.b.length vc)) 44 (0, 0)) ∧ BytesAt w va vc a.b ∧ (va = none → vc = 0) ∧ ∀ g o z, va = some ⟨g, o, z⟩ → ab < g
def Save2 (lb ab : Nat) (w w' : World) : Prop := Below lb w w' ∧ ∀ k, k < w.heap.size → k ≠ lb → k ≠ ab → w'.heap[k]? = w.heap[k]?
theorem Save2.of {lb ab : Nat} {w w' : World} (h : Save lb lb w w') : Save2 lb ab w w' := ⟨h.1, fun k hk h1 _ => h.2 k hk h1⟩
theorem Save2.refl (lb ab : Nat) (w : World) : Save2 lb ab w w := ⟨Below.refl _ _, fun _ _ _ _ => rfl⟩
theorem Save2.trans {lb ab : Nat} {a b c : World} (h : Save2 lb ab a b) (k : Save2 lb ab b c) : Save2 lb ab a c :=
  ⟨h.1.trans k.1, fun i hi h1 h2 => (k.2 i (Nat.lt_of_lt_of_le hi h.1.size) h1 h2).trans (h.2 i hi h1 h2)⟩
theorem Save2.set {lb ab : Nat} {a b : World} (h : Save2 lb ab a b) (hlt : lb < ab) (o : Nat) (v : Value) : Save2 lb ab a (b.setCell ⟨ab, o, none⟩ v) :=
  ⟨h.1.setCell (by show lb ≤ ab; omega) _, fun k hk h1 h2 => (Below.heap_setCell _ _ _ _ (by simpa using h2)).trans (h.2 k hk h1 h2)⟩
theorem ActAt.save {w w' : World} {lb ab : Nat} {a : AN} (h : ActAt w ab a) (hlt : lb < ab) (hs : Save lb lb w w') : ActAt w' ab a := by
  obtain ⟨va, vc, h1, h2, h3, h4⟩ := h
  refine ⟨va, vc, (hs.2 ab (lt_of_block h1) (by omega)).trans h1, bytes_keep h2 (fun g o hg hl => hs.2 g hl (by have := h4 _ _ _ hg; omega)), h3, h4⟩
/-- a cell of an act that is no slice -/
theorem ActAt.set {w : World} {ab : Nat} {a a' : AN} (h : ActAt w ab a) (hb : a'.b = a.b) (o : Nat) (v : Value) (he : ∀ u, (actA a u).setIfInBounds o v = actA a' u) : ActAt (w.setCell ⟨ab, o, none⟩ v) ab a' := by
  obtain ⟨va, vc, h1, h2, h3, h4⟩ := h
  refine ⟨va, vc, ?_, ?_, h3, h4⟩
  · rw [block_at h1 o v, he, hb]
  · rw [hb]
    exact bytes_keep h2 (fun g o hg hl => Below.heap_setCell _ _ _ _ (by have := h4 _ _ _ hg; show g ≠ ab; omega))
theorem ActAt.setB {w : World} {ab : Nat} {a : AN} (h : ActAt w ab a) (l : List Nat) (va : Option Addr) (vc : Nat) (hB : BytesAt w va vc l) (hn : va = none → vc = 0) (hg : ∀ g o z, va = some ⟨g, o, z⟩ → ab < g) :
    ActAt (w.setCell ⟨ab, 6, none⟩ (.slice va l.length vc)) ab { a with b := l } := by
  obtain ⟨va', vc', h1, h2, h3, h4⟩ := h
  refine ⟨va, vc, ?_, ?_, hn, hg⟩
  · rw [block_at h1 6 _]; simp [actA]
  · exact bytes_keep hB (fun g o hg' hl => Below.heap_setCell _ _ _ _ (by have := hg _ _ _ hg'; show g ≠ ab; omega))
theorem ActAt.cells {w : World} {ab : Nat} {a : AN} (h : ActAt w ab a) : w.frozen? ⟨ab, 1, none⟩ = false ∧ w.frozen? ⟨ab, 2, none⟩ = false ∧ w.frozen? ⟨ab, 3, none⟩ = false ∧ w.frozen? ⟨ab, 4, none⟩ = false ∧ w.frozen? ⟨ab, 5, none⟩ = false ∧ w.frozen? ⟨ab, 6, none⟩ = false ∧ (∃ v, w.cell? ⟨ab, 1, none⟩ = some v) ∧ (∃ v, w.cell? ⟨ab, 2, none⟩ = some v) ∧ (∃ v, w.cell? ⟨ab, 3, none⟩ = some v) ∧ (∃ v, w.cell? ⟨ab, 4, none⟩ = some v) ∧ (∃ v, w.cell? ⟨ab, 5, none⟩ = some v) ∧ ∃ v, w.cell? ⟨ab, 6, none⟩ = some v := by
  obtain ⟨va, vc, h1, h2, h3, h4⟩ := h
  exact ⟨free_at h1 _, free_at h1 _, free_at h1 _, free_at h1 _, free_at h1 _, free_at h1 _, ⟨_, cells_at h1 1⟩, ⟨_, cells_at h1 2⟩, ⟨_, cells_at h1 3⟩, ⟨_, cells_at h1 4⟩, ⟨_, cells_at h1 5⟩, ⟨_, cells_at h1 6⟩⟩
theorem LineIs.setAb {w : World} {lb ab : Nat} {ws : List (List UInt8)} {bad : Bool} (h : LineIs w lb ws bad) (hlt : lb < ab) (o : Nat) (v : Value) : LineIs (w.setCell ⟨ab, o, none⟩ v) lb ws bad :=
  h.far ((Below.refl _ _).setCell (by show lb + 1 ≤ ab; omega) _)
/-- what take leaves -/
def TakeP (lb ab c : Nat) (a : AN) (ws : List (List UInt8)) (bad : Bool) (w : World) (e : Ending) (w' : World) : Prop := e = .returned (.tuple #[]) ∧ ∃ a' b2, LineIs w' lb ws.tail b2 ∧ ActAt w' ab a' ∧ stepN (stN bad a ws) c = stN b2 a' ws.tail ∧ Save2 lb ab w w'
theorem head_le {ws : List (List UInt8)} (h : ∀ x ∈ ws, x.length ≤ 1000000) : (ws.headD []).length ≤ 1000000 := by
  cases ws with
  | nil => simp
  | cons x ws => exact h x (List.mem_cons_self ..)
set_option maxRecDepth 100000 in
set_option maxHeartbeats 4000000 in
theorem take_w (lb ab : Nat) (hlt : lb < ab) (a : AN) (ws : List (List UInt8)) (bad : Bool) (hws : ∀ x ∈ ws, x.length ≤ 1000000) (w : World) (h : LineIs w lb ws bad) (ha : ActAt w ab a) :
    Calls Tryd.prog 41 #[.pointer (some ⟨lb, 0, none⟩), .pointer (some ⟨ab, 0, none⟩), .int .i32 119] w (TakeP lb ab 119 a ws bad w) := by
  have hmf : ∀ (fn : Fn) (first cap : Array Value) (w : World), (Instr.makeFunc fn first cap).run Tryd.prog w = .ok (.func fn first cap) w := fun _ _ _ _ => rfl
  have HN := Lib.hid (next_c lb ws bad w h)
  have HA := Lib.hid ha
  have HLT := Lib.hid hlt
  have HX := Lib.hid (head_le hws)
  clear h ha hlt hws
  go_enter Tryd.func41, Tryd.ntmps41
  go_wp2_with fail
  refine HN.out.mono ?_
  rintro e w1 ⟨rfl, hl1, hs1⟩
  have HA1 := Lib.hid (HA.out.save HLT.out hs1)
  have HS1 : Hid (Save2 lb ab w w1) := Save2.of hs1
  obtain ⟨x, hx⟩ : ∃ x, x = ws.headD [] := ⟨_, rfl⟩
  rw [← hx] at HX ⊢
  have HXE := Lib.hid hx
  have HL1 := Lib.hid hl1
  clear hl1 hs1 hx HN HA
  go_wp2_with fail
  refine (lnum_c lb x _ _ w1 HL1.out).mono ?_
  rintro e w2 ⟨rfl, hl2, hs2⟩
  have HA2 := Lib.hid (HA1.out.save HLT.out hs2)
  have HS2 : Hid (Save2 lb ab w w2) := HS1.out.trans (Save2.of hs2)
  have HL2 := Lib.hid hl2
  have fz := HA2.out.cells
  obtain ⟨f1, f2, f3, f4, f5, f6, ⟨v1, c1⟩, ⟨v2, c2⟩, ⟨v3, c3⟩, ⟨v4, c4⟩, ⟨v5, c5⟩, ⟨v6, c6⟩⟩ := fz
  obtain ⟨q, hq⟩ : ∃ q : Nat, q = (numW x).getD 0 := ⟨_, rfl⟩
  rw [← hq]
  have HQ := Lib.hid hq
  clear hl2 hs2 hq HL1 HA1 HS1
  go_wp2
  go_end0
  refine ⟨rfl, { a with which := (q : Int) }, _, HL2.out.setAb HLT.out _ _, HA2.out.set (a' := { a with which := (q : Int) }) rfl 2 (.int .i64 (q : Int)) (fun u => by simp [actA]), ?_, HS2.out.set HLT.out _ _⟩
  refine step_of bad a ws 119 _ _ (fun y hy hh => ?_) (fun y a2 hh hy => ?_)
  · have hn : numW x = none := by
      have h1 : (numW y).map (fun (v : Nat) => { a with which := (v : Int) }) = none := hy
      rw [Option.map_eq_none_iff] at h1
      rw [HXE.out, hh]; exact h1
    rw [hn]; rfl
  · obtain ⟨z, hz, hz2⟩ := Option.map_eq_some_iff.1 (show (numW y).map (fun (v : Nat) => { a with which := (v : Int) }) = some a2 from hy)
    have hn : numW x = some z := by rw [HXE.out, hh]; exact hz
    rw [HQ.out, hn]
    exact ⟨rfl, hz2⟩
set_option maxRecDepth 100000 in
set_option maxHeartbeats 4000000 in
theorem take_k (lb ab : Nat) (hlt : lb < ab) (a : AN) (ws : List (List UInt8)) (bad : Bool) (hws : ∀ x ∈ ws, x.length ≤ 1000000) (w : World) (h : LineIs w lb ws bad) (ha : ActAt w ab a) :
    Calls Tryd.prog 41 #[.pointer (some ⟨lb, 0, none⟩), .pointer (some ⟨ab, 0, none⟩), .int .i32 107] w (TakeP lb ab 107 a ws bad w) := by
  have hmf : ∀ (fn : Fn) (first cap : Array Value) (w : World), (Instr.makeFunc fn first cap).run Tryd.prog w = .ok (.func fn first cap) w := fun _ _ _ _ => rfl
  have HN := Lib.hid (next_c lb ws bad w h)
  have HA := Lib.hid ha
  have HLT := Lib.hid hlt
  have HX := Lib.hid (head_le hws)
  clear h ha hlt hws
  go_enter Tryd.func41, Tryd.ntmps41
  go_wp2_with fail
  refine HN.out.mono ?_
  rintro e w1 ⟨rfl, hl1, hs1⟩
  have HA1 := Lib.hid (HA.out.save HLT.out hs1)
  have HS1 : Hid (Save2 lb ab w w1) := Save2.of hs1
  obtain ⟨x, hx⟩ : ∃ x, x = ws.headD [] := ⟨_, rfl⟩
  rw [← hx] at HX ⊢
  have HXE := Lib.hid hx
  have HL1 := Lib.hid hl1
  clear hl1 hs1 hx HN HA
  go_wp2_with fail
  refine (lnum_c lb x _ _ w1 HL1.out).mono ?_
  rintro e w2 ⟨rfl, hl2, hs2⟩
  have HA2 := Lib.hid (HA1.out.save HLT.out hs2)
  have HS2 : Hid (Save2 lb ab w w2) := HS1.out.trans (Save2.of hs2)
  have HL2 := Lib.hid hl2
  have fz := HA2.out.cells
  obtain ⟨f1, f2, f3, f4, f5, f6, ⟨v1, c1⟩, ⟨v2, c2⟩, ⟨v3, c3⟩, ⟨v4, c4⟩, ⟨v5, c5⟩, ⟨v6, c6⟩⟩ := fz
  obtain ⟨q, hq⟩ : ∃ q : Nat, q = (numW x).getD 0 := ⟨_, rfl⟩
  rw [← hq]
  have HQ := Lib.hid hq
  clear hl2 hs2 hq HL1 HA1 HS1
  go_wp2
  go_end0
  refine ⟨rfl, { a with k := (q : Int) }, _, HL2.out.setAb HLT.out _ _, HA2.out.set (a' := { a with k := (q : Int) }) rfl 3 (.int .i64 (q : Int)) (fun u => by simp [actA]), ?_, HS2.out.set HLT.out _ _⟩
  refine step_of bad a ws 107 _ _ (fun y hy hh => ?_) (fun y a2 hh hy => ?_)
  · have hn : numW x = none := by
      have h1 : (numW y).map (fun (v : Nat) => { a with k := (v : Int) }) = none := hy
      rw [Option.map_eq_none_iff] at h1
      rw [HXE.out, hh]; exact h1
    rw [hn]; rfl
  · obtain ⟨z, hz, hz2⟩ := Option.map_eq_some_iff.1 (show (numW y).map (fun (v : Nat) => { a with k := (v : Int) }) = some a2 from hy)
    have hn : numW x = some z := by rw [HXE.out, hh]; exact hz
    rw [HQ.out, hn]
    exact ⟨rfl, hz2⟩
set_option maxRecDepth 100000 in
set_option maxHeartbeats 4000000 in
theorem take_n (lb ab : Nat) (hlt : lb < ab) (a : AN) (ws : List (List UInt8)) (bad : Bool) (hws : ∀ x ∈ ws, x.length ≤ 1000000) (w : World) (h : LineIs w lb ws bad) (ha : ActAt w ab a) :
    Calls Tryd.prog 41 #[.pointer (some ⟨lb, 0, none⟩), .pointer (some ⟨ab, 0, none⟩), .int .i32 110] w (TakeP lb ab 110 a ws bad w) := by
  have hmf : ∀ (fn : Fn) (first cap : Array Value) (w : World), (Instr.makeFunc fn first cap).run Tryd.prog w = .ok (.func fn first cap) w := fun _ _ _ _ => rfl
  have HN := Lib.hid (next_c lb ws bad w h)
  have HA := Lib.hid ha
  have HLT := Lib.hid hlt
  have HX := Lib.hid (head_le hws)
  clear h ha hlt hws
  go_enter Tryd.func41, Tryd.ntmps41
  go_wp2_with fail
  refine HN.out.mono ?_
  rintro e w1 ⟨rfl, hl1, hs1⟩
  have HA1 := Lib.hid (HA.out.save HLT.out hs1)
  have HS1 : Hid (Save2 lb ab w w1) := Save2.of hs1
  obtain ⟨x, hx⟩ : ∃ x, x = ws.headD [] := ⟨_, rfl⟩
  rw [← hx] at HX ⊢
  have HXE := Lib.hid hx
  have HL1 := Lib.hid hl1
  clear hl1 hs1 hx HN HA
  go_wp2_with fail
  refine (lnum_c lb x _ _ w1 HL1.out).mono ?_
  rintro e w2 ⟨rfl, hl2, hs2⟩
  have HA2 := Lib.hid (HA1.out.save HLT.out hs2)
  have HS2 : Hid (Save2 lb ab w w2) := HS1.out.trans (Save2.of hs2)
  have HL2 := Lib.hid hl2
  have fz := HA2.out.cells
  obtain ⟨f1, f2, f3, f4, f5, f6, ⟨v1, c1⟩, ⟨v2, c2⟩, ⟨v3, c3⟩, ⟨v4, c4⟩, ⟨v5, c5⟩, ⟨v6, c6⟩⟩ := fz
  obtain ⟨q, hq⟩ : ∃ q : Nat, q = (numW x).getD 0 := ⟨_, rfl⟩
  rw [← hq]
  have HQ := Lib.hid hq
  clear hl2 hs2 hq HL1 HA1 HS1
  go_wp2
  go_end0
  refine ⟨rfl, { a with n := (q : Int) }, _, HL2.out.setAb HLT.out _ _, HA2.out.set (a' := { a with n := (q : Int) }) rfl 4 (.int .i64 (q : Int)) (fun u => by simp [actA]), ?_, HS2.out.set HLT.out _ _⟩
  refine step_of bad a ws 110 _ _ (fun y hy hh => ?_) (fun y a2 hh hy => ?_)
  · have hn : numW x = none := by
      have h1 : (numW y).map (fun (v : Nat) => { a with n := (v : Int) }) = none := hy
      rw [Option.map_eq_none_iff] at h1
      rw [HXE.out, hh]; exact h1
    rw [hn]; rfl
  · obtain ⟨z, hz, hz2⟩ := Option.map_eq_some_iff.1 (show (numW y).map (fun (v : Nat) => { a with n := (v : Int) }) = some a2 from hy)
    have hn : numW x = some z := by rw [HXE.out, hh]; exact hz
    rw [HQ.out, hn]
    exact ⟨rfl, hz2⟩
set_option maxRecDepth 100000 in
set_option maxHeartbeats 4000000 in
theorem take_a (lb ab : Nat) (hlt : lb < ab) (a : AN) (ws : List (List UInt8)) (bad : Bool) (hws : ∀ x ∈ ws, x.length ≤ 1000000) (w : World) (h : LineIs w lb ws bad) (ha : ActAt w ab a) :
    Calls Tryd.prog 41 #[.pointer (some ⟨lb, 0, none⟩), .pointer (some ⟨ab, 0, none⟩), .int .i32 97] w (TakeP lb ab 97 a ws bad w) := by
  have hmf : ∀ (fn : Fn) (first cap : Array Value) (w : World), (Instr.makeFunc fn first cap).run Tryd.prog w = .ok (.func fn first cap) w := fun _ _ _ _ => rfl
  have HN := Lib.hid (next_c lb ws bad w h)
  have HA := Lib.hid ha
  have HLT := Lib.hid hlt
  have HX := Lib.hid (head_le hws)
  clear h ha hlt hws
  go_enter Tryd.func41, Tryd.ntmps41
  go_wp2_with fail
  refine HN.out.mono ?_
  rintro e w1 ⟨rfl, hl1, hs1⟩
  have HA1 := Lib.hid (HA.out.save HLT.out hs1)
  have HS1 : Hid (Save2 lb ab w w1) := Save2.of hs1
  obtain ⟨x, hx⟩ : ∃ x, x = ws.headD [] := ⟨_, rfl⟩
  rw [← hx] at HX ⊢
  have HXE := Lib.hid hx
  have HL1 := Lib.hid hl1
  clear hl1 hs1 hx HN HA
  go_wp2_with fail
  refine (lnum_c lb x _ _ w1 HL1.out).mono ?_
  rintro e w2 ⟨rfl, hl2, hs2⟩
  have HA2 := Lib.hid (HA1.out.save HLT.out hs2)
  have HS2 : Hid (Save2 lb ab w w2) := HS1.out.trans (Save2.of hs2)
  have HL2 := Lib.hid hl2
  have fz := HA2.out.cells
  obtain ⟨f1, f2, f3, f4, f5, f6, ⟨v1, c1⟩, ⟨v2, c2⟩, ⟨v3, c3⟩, ⟨v4, c4⟩, ⟨v5, c5⟩, ⟨v6, c6⟩⟩ := fz
  obtain ⟨q, hq⟩ : ∃ q : Nat, q = (numW x).getD 0 := ⟨_, rfl⟩
  rw [← hq]
  have HQ := Lib.hid hq
  clear hl2 hs2 hq HL1 HA1 HS1
  go_wp2
  go_end0
  refine ⟨rfl, { a with at_ := (q : Int) }, _, HL2.out.setAb HLT.out _ _, HA2.out.set (a' := { a with at_ := (q : Int) }) rfl 5 (.int .i64 (q : Int)) (fun u => by simp [actA]), ?_, HS2.out.set HLT.out _ _⟩
  refine step_of bad a ws 97 _ _ (fun y hy hh => ?_) (fun y a2 hh hy => ?_)
  · have hn : numW x = none := by
      have h1 : (numW y).map (fun (v : Nat) => { a with at_ := (v : Int) }) = none := hy
      rw [Option.map_eq_none_iff] at h1
      rw [HXE.out, hh]; exact h1
    rw [hn]; rfl
  · obtain ⟨z, hz, hz2⟩ := Option.map_eq_some_iff.1 (show (numW y).map (fun (v : Nat) => { a with at_ := (v : Int) }) = some a2 from hy)
    have hn : numW x = some z := by rw [HXE.out, hh]; exact hz
    rw [HQ.out, hn]
    exact ⟨rfl, hz2⟩
set_option maxRecDepth 100000 in
set_option maxHeartbeats 4000000 in
theorem take_b (lb ab : Nat) (hlt : lb < ab) (a : AN) (ws : List (List UInt8)) (bad : Bool) (hws : ∀ x ∈ ws, x.length ≤ 1000000) (w : World) (h : LineIs w lb ws bad) (ha : ActAt w ab a) :
    Calls Tryd.prog 41 #[.pointer (some ⟨lb, 0, none⟩), .pointer (some ⟨ab, 0, none⟩), .int .i32 98] w (TakeP lb ab 98 a ws bad w) := by
  have hmf : ∀ (fn : Fn) (first cap : Array Value) (w : World), (Instr.makeFunc fn first cap).run Tryd.prog w = .ok (.func fn first cap) w := fun _ _ _ _ => rfl
  have HN := Lib.hid (next_c lb ws bad w h)
  have HA := Lib.hid ha
  have HLT := Lib.hid hlt
  have HX := Lib.hid (head_le hws)
  clear h ha hlt hws
  go_enter Tryd.func41, Tryd.ntmps41
  go_wp2_with fail
  refine HN.out.mono ?_
  rintro e w1 ⟨rfl, hl1, hs1⟩
  have HA1 := Lib.hid (HA.out.save HLT.out hs1)
  have HS1 : Hid (Save2 lb ab w w1) := Save2.of hs1
  obtain ⟨x, hx⟩ : ∃ x, x = ws.headD [] := ⟨_, rfl⟩
  rw [← hx] at HX ⊢
  have HXE := Lib.hid hx
  have HL1 := Lib.hid hl1
  clear hl1 hs1 hx HN HA
  go_wp2_with fail
  refine (lbytes_c lb _ _ x HX.out w1 HL1.out).mono ?_
  rintro e w2 ⟨⟨v, rfl, hown⟩, hl2, hs2⟩
  obtain ⟨va, vc, rfl, hB, hlen, hcap, hcm, hnil, hgg⟩ := own_bytes (hexR_lt x) hown
  have HA2 := Lib.hid (HA1.out.save HLT.out hs2)
  have HS2 : Hid (Save2 lb ab w w2) := HS1.out.trans (Save2.of hs2)
  have HL2 := Lib.hid hl2
  have fz := HA2.out.cells
  obtain ⟨f1, f2, f3, f4, f5, f6, ⟨v1, c1⟩, ⟨v2, c2⟩, ⟨v3, c3⟩, ⟨v4, c4⟩, ⟨v5, c5⟩, ⟨v6, c6⟩⟩ := fz
  obtain ⟨q, hq⟩ : ∃ q, q = hexR x := ⟨_, rfl⟩
  rw [← hq] at hB ⊢
  have HQ := Lib.hid hq
  have HAB : Hid (ab < w1.heap.size) := by obtain ⟨_, _, h1, _⟩ := HA1.out; exact lt_of_block h1
  have HSB := Lib.hid (HA2.out.setB q va vc hB hnil (fun g o z hg => by have := (hgg g o z hg).1; have := HAB.out; omega))
  clear hl2 hs2 hq HL1 HA1 HS1 hown hB hlen hcap hcm hnil hgg
  go_wp2
  go_end0
  refine ⟨rfl, { a with b := q }, _, HL2.out.setAb HLT.out _ _, HSB.out, ?_, HS2.out.set HLT.out _ _⟩
  refine step_of bad a ws 98 _ _ (fun y hy hh => ?_) (fun y a2 hh hy => ?_)
  · have hn : hexW x = none := by
      have h1 : (hexW y).map _ = none := hy
      rw [Option.map_eq_none_iff] at h1
      rw [HXE.out, hh]; exact h1
    rw [hn]; rfl
  · obtain ⟨z, hz, hz2⟩ := Option.map_eq_some_iff.1 (show (hexW y).map _ = some a2 from hy)
    have hn : hexW x = some z := by rw [HXE.out, hh]; exact hz
    have hr : q = z := by rw [HQ.out]; unfold hexR; rw [hn]; rfl
    rw [hr, hn]
    exact ⟨rfl, hz2⟩
set_option maxRecDepth 100000 in
set_option maxHeartbeats 4000000 in
theorem take_o (lb ab : Nat) (hlt : lb < ab) (a : AN) (ws : List (List UInt8)) (bad : Bool) (hws : ∀ x ∈ ws, x.length ≤ 1000000) (w : World) (h : LineIs w lb ws bad) (ha : ActAt w ab a) :
    Calls Tryd.prog 41 #[.pointer (some ⟨lb, 0, none⟩), .pointer (some ⟨ab, 0, none⟩), .int .i32 111] w (TakeP lb ab 111 a ws bad w) := by
  have hmf : ∀ (fn : Fn) (first cap : Array Value) (w : World), (Instr.makeFunc fn first cap).run Tryd.prog w = .ok (.func fn first cap) w := fun _ _ _ _ => rfl
  have HN := Lib.hid (next_c lb ws bad w h)
  have HA := Lib.hid ha
  have HLT := Lib.hid hlt
  have HX := Lib.hid (head_le hws)
  clear h ha hlt hws
  go_enter Tryd.func41, Tryd.ntmps41
  go_wp2_with fail
  refine HN.out.mono ?_
  rintro e w1 ⟨rfl, hl1, hs1⟩
  have HA1 := Lib.hid (HA.out.save HLT.out hs1)
  have HS1 : Hid (Save2 lb ab w w1) := Save2.of hs1
  obtain ⟨x, hx⟩ : ∃ x, x = ws.headD [] := ⟨_, rfl⟩
  rw [← hx] at HX ⊢
  have HXE := Lib.hid hx
  have HL1 := Lib.hid hl1
  clear hl1 hs1 hx HN HA
  go_wp2_with fail
  refine (either_c lb x _ _ w1 HL1.out).mono ?_
  rintro e w2 ⟨rfl, hl2, hs2⟩
  have HA2 := Lib.hid (HA1.out.save HLT.out hs2)
  have HS2 : Hid (Save2 lb ab w w2) := HS1.out.trans (Save2.of hs2)
  have HL2 := Lib.hid hl2
  have fz := HA2.out.cells
  obtain ⟨f1, f2, f3, f4, f5, f6, ⟨v1, c1⟩, ⟨v2, c2⟩, ⟨v3, c3⟩, ⟨v4, c4⟩, ⟨v5, c5⟩, ⟨v6, c6⟩⟩ := fz
  obtain ⟨q, hq⟩ : ∃ q, q = decide (x = writeW) := ⟨_, rfl⟩
  rw [← hq]
  have HQ := Lib.hid hq
  clear hl2 hs2 hq HL1 HA1 HS1
  go_wp2
  go_end0
  refine ⟨rfl, { a with yes := q }, _, HL2.out.setAb HLT.out _ _, HA2.out.set (a' := { a with yes := q }) rfl 1 (.bool q) (fun u => by simp [actA]), ?_, HS2.out.set HLT.out _ _⟩
  refine step_of bad a ws 111 _ _ (fun y hy hh => ?_) (fun y a2 hh hy => ?_)
  · have h1 : (if decide (y = readW) || decide (y = writeW) then some { a with yes := decide (y = writeW) } else none) = none := hy
    rw [← hh, ← HXE.out] at h1
    cases hd : (decide (x = readW) || decide (x = writeW)) with
    | false => rfl
    | true => rw [hd] at h1; cases h1
  · have h1 : (if decide (y = readW) || decide (y = writeW) then some { a with yes := decide (y = writeW) } else none) = some a2 := hy
    rw [← hh, ← HXE.out, ← HQ.out] at h1
    cases hd : (decide (x = readW) || q) with
    | false => rw [hd] at h1; cases h1
    | true => rw [hd] at h1; rw [HQ.out] at hd; rw [hd]; cases h1; exact ⟨rfl, rfl⟩
set_option maxRecDepth 100000 in
set_option maxHeartbeats 4000000 in
theorem take_s (lb ab : Nat) (hlt : lb < ab) (a : AN) (ws : List (List UInt8)) (bad : Bool) (hws : ∀ x ∈ ws, x.length ≤ 1000000) (w : World) (h : LineIs w lb ws bad) (ha : ActAt w ab a) :
    Calls Tryd.prog 41 #[.pointer (some ⟨lb, 0, none⟩), .pointer (some ⟨ab, 0, none⟩), .int .i32 115] w (TakeP lb ab 115 a ws bad w) := by
  have hmf : ∀ (fn : Fn) (first cap : Array Value) (w : World), (Instr.makeFunc fn first cap).run Tryd.prog w = .ok (.func fn first cap) w := fun _ _ _ _ => rfl
  have HN := Lib.hid (next_c lb ws bad w h)
  have HA := Lib.hid ha
  have HLT := Lib.hid hlt
  have HX := Lib.hid (head_le hws)
  clear h ha hlt hws
  go_enter Tryd.func41, Tryd.ntmps41
  go_wp2_with fail
  refine HN.out.mono ?_
  rintro e w1 ⟨rfl, hl1, hs1⟩
  have HA1 := Lib.hid (HA.out.save HLT.out hs1)
  have HS1 : Hid (Save2 lb ab w w1) := Save2.of hs1
  obtain ⟨x, hx⟩ : ∃ x, x = ws.headD [] := ⟨_, rfl⟩
  rw [← hx] at HX ⊢
  have HXE := Lib.hid hx
  have HL1 := Lib.hid hl1
  clear hl1 hs1 hx HN HA
  have fz := HA1.out.cells
  obtain ⟨f1, f2, f3, f4, f5, f6, ⟨v1, c1⟩, ⟨v2, c2⟩, ⟨v3, c3⟩, ⟨v4, c4⟩, ⟨v5, c5⟩, ⟨v6, c6⟩⟩ := fz
  by_cases hno : x = noneW
  · have HNO := Lib.hid hno
    have dno : decide (x = noneW) = true := by simpa using hno
    unfold noneW at dno
    have HA2 : Hid (ActAt (w1.setCell ⟨ab, 1, none⟩ (.bool true)) ab { a with yes := true }) := HA1.out.set (a' := { a with yes := true }) rfl 1 (.bool true) (fun u => by simp [actA])
    clear hno
    go_wp2
    go_end0
    refine ⟨rfl, { a with yes := true }, _, HL1.out.setAb HLT.out _ _, HA2.out, ?_, HS1.out.set HLT.out _ _⟩
    have := step_of bad a ws 115 { a with yes := true } false (fun y hy hh => ?_) (fun y a2 hh hy => ?_)
    · rw [Bool.or_false] at this; exact this
    · have h1 : (if y = noneW then some { a with yes := true } else _) = none := hy
      rw [← hh, ← HXE.out, if_pos HNO.out] at h1; cases h1
    · have h1 : (if y = noneW then some { a with yes := true } else _) = some a2 := hy
      rw [← hh, ← HXE.out, if_pos HNO.out] at h1; cases h1; exact ⟨rfl, rfl⟩
  · have HNO := Lib.hid hno
    have dno : decide (x = noneW) = false := by simpa using hno
    unfold noneW at dno
    have HA2 : Hid (ActAt (w1.setCell ⟨ab, 1, none⟩ (.bool false)) ab { a with yes := false }) := HA1.out.set (a' := { a with yes := false }) rfl 1 (.bool false) (fun u => by simp [actA])
    have HL2 : Hid (LineIs (w1.setCell ⟨ab, 1, none⟩ (.bool false)) lb ws.tail (bad || ws.isEmpty)) := HL1.out.setAb HLT.out _ _
    have HS2 : Hid (Save2 lb ab w (w1.setCell ⟨ab, 1, none⟩ (.bool false))) := HS1.out.set HLT.out _ _
    clear hno
    go_wp2_with fail
    generalize w1.setCell ⟨ab, 1, none⟩ (.bool false) = w2 at *
    refine (lnum_c lb x _ _ w2 HL2.out).mono ?_
    rintro e w3 ⟨rfl, hl3, hs3⟩
    have HA3 := Lib.hid (HA2.out.save HLT.out hs3)
    have HS3 : Hid (Save2 lb ab w w3) := HS2.out.trans (Save2.of hs3)
    have HL3 := Lib.hid hl3
    clear f1 f2 f3 f4 f5 f6 c1 c2 c3 c4 c5 c6
    obtain ⟨f1, f2, f3, f4, f5, f6, ⟨v1, c1⟩, ⟨v2, c2⟩, ⟨v3, c3⟩, ⟨v4, c4⟩, ⟨v5, c5⟩, ⟨v6, c6⟩⟩ := HA3.out.cells
    obtain ⟨q, hq⟩ : ∃ q : Nat, q = (numW x).getD 0 := ⟨_, rfl⟩
    rw [← hq]
    have HQ := Lib.hid hq
    clear hl3 hs3 hq HL1 HA1 HS1 HL2 HA2 HS2
    go_wp2
    go_end0
    refine ⟨rfl, { a with yes := false, which := (q : Int) }, _, HL3.out.setAb HLT.out _ _, HA3.out.set (a' := { a with yes := false, which := (q : Int) }) rfl 2 (.int .i64 (q : Int)) (fun u => by simp [actA]), ?_, HS3.out.set HLT.out _ _⟩
    refine step_of bad a ws 115 _ _ (fun y hy hh => ?_) (fun y a2 hh hy => ?_)
    · have h1 : (if y = noneW then some { a with yes := true } else (numW y).map (fun (v : Nat) => { a with yes := false, which := (v : Int) })) = none := hy
      rw [← hh, ← HXE.out, if_neg HNO.out, Option.map_eq_none_iff] at h1
      rw [h1]; rfl
    · have h1 : (if y = noneW then some { a with yes := true } else (numW y).map (fun (v : Nat) => { a with yes := false, which := (v : Int) })) = some a2 := hy
      rw [← hh, ← HXE.out, if_neg HNO.out] at h1
      obtain ⟨z, hz, hz2⟩ := Option.map_eq_some_iff.1 h1
      rw [HQ.out, hz]
      exact ⟨rfl, hz2⟩
theorem take_c (lb ab c : Nat) (hc : c = 119 ∨ c = 107 ∨ c = 110 ∨ c = 97 ∨ c = 98 ∨ c = 111 ∨ c = 115) (hlt : lb < ab) (a : AN) (ws : List (List UInt8)) (bad : Bool) (hws : ∀ x ∈ ws, x.length ≤ 1000000) (w : World) (h : LineIs w lb ws bad) (ha : ActAt w ab a) :
    Calls Tryd.prog 41 #[.pointer (some ⟨lb, 0, none⟩), .pointer (some ⟨ab, 0, none⟩), .int .i32 (c : Int)] w (TakeP lb ab c a ws bad w) := by
  rcases hc with rfl | rfl | rfl | rfl | rfl | rfl | rfl
  · exact take_w lb ab hlt a ws bad hws w h ha
  · exact take_k lb ab hlt a ws bad hws w h ha
  · exact take_n lb ab hlt a ws bad hws w h ha
  · exact take_a lb ab hlt a ws bad hws w h ha
  · exact take_b lb ab hlt a ws bad hws w h ha
  · exact take_o lb ab hlt a ws bad hws w h ha
  · exact take_s lb ab hlt a ws bad hws w h ha
end Go.Proofs.YteennbdakjjcfaaDoor
