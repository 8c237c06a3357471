/- Lemmas for the proof. -/
import Derived.Test.YtnmdjggdgakeoaaGreatPXb
import Derived.Test.YtnmdjggdgakeoaaGreatPXc
import Derived.Test.YtnmdjggdgakeoaaGreatPXe
import Derived.Deep.CutBlock
import Derived.Deep.CutRange
import Derived.Laws.Rows
import Derived.WideKeyEntry
set_option maxRecDepth 100000
set_option maxHeartbeats 16000000
set_option linter.unusedVariables false
set_option linter.unusedSimpArgs false
set_option linter.unusedSectionVars false
namespace Go.Proofs.YtnmdjggdgakeoaaGreat
open Go Go.RowKit Sha
abbrev BEnt := MEnt (List Nat)
def goodD (d : List Nat) : Prop := d.length = 32 /\ ∀ x ∈ d, x < 256
def dV (d : List Nat) : Value := .agg (bA d)
theorem dig_wide : (match Tryz.prog.underlying 38 with | some (.array _ _) | some (.struct _) => true | _ => false) = true := by kernel_rfl
theorem dig_keyed : Go.Maps.Keyed Tryz.prog 38 := Go.Maps.Keyed.of_law (deep_law (m := 3) (by omega) (by kernel_rfl) (by kernel_rfl) dig_wide)
theorem dig_u : Tryz.prog.underlying 38 = some (.array 32 5) := by kernel_rfl
theorem types_pos : Nat.ble 1 Tryz.prog.types.size = true := by kernel_rfl
theorem dig_key (x : List Nat) (h : goodD x) : ∃ k, Go.keyOf Tryz.prog 38 (dV x) = some k :=
 keyOf_bytes dig_u (by kernel_rfl) (by kernel_rfl) (by kernel_rfl) (by kernel_rfl) (by have h9 := Nat.le_of_ble_eq_true types_pos; generalize Tryz.prog.types.size = z at h9; exact ⟨z - 1, by omega⟩) x h.1 h.2
theorem dV_inj (x y : List Nat) (h : dV x = dV y) : x = y := by
 unfold dV at h
 injection h with h
 exact bA_inj h
theorem digKT : KeyTy Tryz.prog 38 22 129 dV goodD :=
 ⟨Tryz.underlying129, dig_keyed, dig_key, dV_inj, fun w => by first | rfl | go_simp⟩
theorem sumN_good (m : List Nat) : goodD (sumN m) := ⟨sum_len m, fun x hx => by
 unfold sumN St.out outW at hx
 simp at hx
 omega⟩
theorem MapB.look_none {α : Type} {kv : α -> Value} {good : α -> Prop} {P : Program} {kt et mt : TypeId} {w : World} {m : Nat} {M : List (MEnt α)} (R : KeyTy P kt et mt kv good) (h : MapB kv good w m M) (k : α) (hk : good k) (hn : ∀ x ∈ M, x.k ≠ k) :
  (Instr.lookup mt (.map (some m)) (kv k) true).run P w = .ok (.tuple #[.slice none 0 0, .bool false]) w := by
 rcases h.look R k hk with ⟨h1, _⟩ | ⟨x, hx, e, _⟩
 ·exact h1
 ·exact absurd e (hn x hx)
theorem MapB.len {α : Type} {kv : α -> Value} {good : α -> Prop} {P : Program} {k e mt : TypeId} {w : World} {m : Nat} {M : List (MEnt α)} (h : MapB kv good w m M) (ht : P.underlying mt = some (.map k e)) (ty : TypeId) :
  (Builtin.len_ #[mt] ty #[.map (some m)]).run P w = .ok (.int .i64 (M.length : Int)) w := by
 obtain ⟨es, clock, hb, hs, _⟩ := h.ex
 rw [<- hs];simp [Builtin.len_, run_underlying ht, MapKept.run_getObj_map hb, goInt, Result.andThen]
theorem pairwise_eq {α : Type} {M : List (MEnt α)} (h : M.Pairwise fun x y => x.k ≠ y.k) : ∀ x ∈ M, ∀ y ∈ M, x.k = y.k -> x = y := by
 induction h with
 | nil => intro x hx; cases hx
 | cons h1 _ ih =>
  intro x hx y hy e;rcases List.mem_cons.1 hx with rfl | hx' <;> rcases List.mem_cons.1 hy with rfl | hy'
  ·rfl
  ·exact absurd e (h1 y hy')
  ·exact absurd e.symm (h1 x hx')
  ·exact ih x hx' y hy' e
theorem MapB.look_some {α : Type} {kv : α -> Value} {good : α -> Prop} {P : Program} {kt et mt : TypeId} {w : World} {m : Nat} {M : List (MEnt α)} (R : KeyTy P kt et mt kv good) (h : MapB kv good w m M) (x : MEnt α) (hx : x ∈ M) :
  (Instr.lookup mt (.map (some m)) (kv x.k) true).run P w = .ok (.tuple #[.slice (some ⟨x.q, 0, none⟩) x.b.length x.c, .bool true]) w := by
 rcases h.look R x.k (h.bytes x hx).1 with ⟨_, hn⟩ | ⟨y, hy, e, h1⟩
 ·exact absurd rfl (hn x hx)
 ·have e2 : y = x := pairwise_eq h.dist y hy x hx e
  subst e2;exact h1
def bkA (tb mb : Nat) (cl : Option Nat) : Array Value := #[.func (.func 12) #[.pointer (some ⟨tb, 0, none⟩)] #[], .map (some mb), .pointer (cl.map fun q => ⟨q, 0, none⟩)]
structure Bk (w : World) (b tb mb : Nat) (cl : Option Nat) (E : List BEnt) (TS : List (List Nat)) : Prop where
 blk : w.heap[b]? = some (.cells (bkA tb mb cl) 132 (0, 0))
 tbl : w.heap[tb]? = some (.cells (wA (KT ++ HL)) 64 (0, 0))
 map : MapB dV goodD w mb E
 txt : ∀ x ∈ E, x.b ∈ TS /\ x.k = sumN x.b
 cls : (∀ x ∈ TS, ∀ y ∈ TS, sumN x = sumN y -> x = y) -> cl = none
def bkS (b tb mb : Nat) (E : List BEnt) : BSet := fun k => k = b \/ k = tb \/ mapS mb E k
theorem lt_blk {w : World} {k : Nat} {o : Obj} (h : w.heap[k]? = some o) : k < w.heap.size := (Array.getElem?_eq_some_iff.1 h).1
theorem Bk.on {w : World} {b tb mb : Nat} {cl : Option Nat} {E : List BEnt} {TS : List (List Nat)} (h : Bk w b tb mb cl E TS) : On (bkS b tb mb E) (fun w => Bk w b tb mb cl E TS) w := by
 refine ⟨h, ?_, fun w' he => ⟨(he b (.inl rfl)).trans h.blk, (he tb (.inr (.inl rfl))).trans h.tbl, h.map.on.keep w' fun k hk => he k (.inr (.inr hk)), h.txt, h.cls⟩⟩
 rintro k (rfl | rfl | hk)
 ·exact lt_blk h.blk
 ·exact lt_blk h.tbl
 ·exact h.map.on.lt k hk
theorem Bk.bne {w : World} {b tb mb : Nat} {cl : Option Nat} {E : List BEnt} {TS : List (List Nat)} (h : Bk w b tb mb cl E TS) : b ≠ mb /\ b ≠ tb /\ tb ≠ mb /\ ∀ x ∈ E, x.q ≠ b := by
 obtain ⟨es, clock, hm, _⟩ := h.map.ex
 refine ⟨?_, ?_, ?_, fun x hx => ?_⟩
 ·rintro rfl; rw [h.blk] at hm; cases hm
 ·rintro rfl
  have e := h.tbl
  rw [h.blk] at e;have e2 : bkA b mb cl = wA (KT ++ HL) := by injection e with e; injection e with e
  have e3 := congrArg (fun A : Array Value => A[0]?) e2
  simp [bkA, wA, KT] at e3
 ·rintro rfl; rw [h.tbl] at hm; cases hm
 ·rintro rfl
  obtain ⟨_, h0, hB⟩ := h.map.bytes x hx
  obtain ⟨g, o, hg, _, _, hc⟩ := hB.2 h0
  cases hg
  have e := hc 0 h0
  rw [Nat.add_zero, cells_at h.blk 0] at e
  simp [bkA] at e
theorem Bk.more {w : World} {b tb mb : Nat} {cl : Option Nat} {E : List BEnt} {TS TS' : List (List Nat)} (h : Bk w b tb mb cl E TS) (hs : ∀ x ∈ TS, x ∈ TS') : Bk w b tb mb cl E TS' :=
 ⟨h.blk, h.tbl, h.map, fun x hx => ⟨hs _ (h.txt x hx).1, (h.txt x hx).2⟩, fun hi => h.cls fun x hx y hy e => hi x (hs x hx) y (hs y hy) e⟩
def opsBkL : {o : Array Oper // some o = (Tryz.f286.body.bind (Fre.findR 5))} := ⟨_, rfl⟩
theorem fitBkL : Fre.fit .any opsBkL.1 75 = true := by kernel_rfl
theorem sizeBkL : opsBkL.1.size = 11 := by kernel_rfl
def VBkL (b tb mb dq : Nat) (cl : Option Nat) (d : List Nat) (o : Value) (f : Bool) (i : Nat) (v : Value) (w : World) : Prop := match i with
 | 0 => v = .pointer (some ⟨b, 0, none⟩)
 | 1 => v = .pointer (some ⟨b, 0, none⟩)
 | 2 => v = .pointer (some ⟨b, 1, none⟩)
 | 3 => v = .map (some mb)
 | 4 => v = .agg (bA d)
 | 5 => v = .tuple #[o, .bool f]
 | 6 => v = .tuple #[o, .bool f]
 | 7 => v = o
 | 8 => v = .bool f
 | 9 => v = o
 | 10 => v = .bool f
 | _ => True
section
variable {u1 u2 u3 u4 u5 u6 u7 u9 u10 u11 u12 u13 u14 u15 u16 u17 u18 u19 u20 u21 u22 u23 u24 u25 u26 u27 u28 u29 u30 u31 u32 u33 u34 u35 u36 u37 u38 u39 u40 u41 u42 u43 u44 u45 u46 u47 u48 u49 u50 u51 u52 u53 u54 u55 u56 u57 u58 u59 u60 u61 u62 u63 u64 u65 u66 u67 u68 u69 u70 u71 u72 u73 u74 : Value}
theorem kpBkL (b tb mb dq : Nat) (cl : Option Nat) (d : List Nat) (o : Value) (f : Bool) : ∀ j v w w', j < opsBkL.1.size -> VBkL b tb mb dq cl d o f j v w -> Fre.Kept w w' -> VBkL b tb mb dq cl d o f j v w' := by
 intro j v w w' hj h hs
 rw [sizeBkL] at hj;rcases cs11 hj with rfl | rfl | rfl | rfl | rfl | rfl | rfl | rfl | rfl | rfl | rfl <;> exact h
variable {b tb mb dq : Nat} {cl : Option Nat} {d : List Nat} {o : Value} {f : Bool} {a0 : Act} {w0 : World} (h0 : w0.heap[b]? = some (.cells (bkA tb mb cl) 132 (0, 0))) (h1 : w0.heap[dq]? = some (.cells (bA d) 38 (0, 0))) (hd : d.length = 32) (hL : ∀ w, Fre.Kept w0 w -> (Instr.lookup 129 (.map (some mb)) (.agg (bA d)) true).run Tryz.prog w = .ok (.tuple #[o, .bool f]) w)
include h0 h1 hd hL
theorem stBkL_0 (g90 : a0.tmps.getD 0 undef = .pointer (some ⟨b, 0, none⟩)) : Fre.StepB Tryz.prog opsBkL.1 a0 w0 (VBkL b tb mb dq cl d o f) Fre.Kept 0 := by
 rintro E w hc hf hE hV hN hS _ ⟨⟩
 simp only [opsBkL, gA, gS, gZ]
 have b0 : E (.tmp 0) = .pointer (some ⟨b, 0, none⟩) := (hE 0 (by kernel_rfl)).trans g90
 clear g90;refine Fre.dv (v := .pointer (some ⟨b, 0, none⟩)) ?_
 go_simp
theorem stBkL_1 : Fre.StepB Tryz.prog opsBkL.1 a0 w0 (VBkL b tb mb dq cl d o f) Fre.Kept 1 := by
 rintro E w hc hf hE hV hN hS _ ⟨⟩
 simp only [opsBkL, gA, gS, gZ]
 have d0 : E (.tmp 27) = .pointer (some ⟨b, 0, none⟩) := hV 0 27 (by kernel_rfl) (by kernel_rfl)
 refine Fre.dv (v := .pointer (some ⟨b, 0, none⟩)) ?_
 go_simp
theorem stBkL_2 : Fre.StepB Tryz.prog opsBkL.1 a0 w0 (VBkL b tb mb dq cl d o f) Fre.Kept 2 := by
 rintro E w hc hf hE hV hN hS _ ⟨⟩
 simp only [opsBkL, gA, gS, gZ]
 have d1 : E (.tmp 28) = .pointer (some ⟨b, 0, none⟩) := hV 1 28 (by kernel_rfl) (by kernel_rfl)
 refine Fre.dv (v := .pointer (some ⟨b, 1, none⟩)) ?_
 go_simp
theorem stBkL_3 : Fre.StepB Tryz.prog opsBkL.1 a0 w0 (VBkL b tb mb dq cl d o f) Fre.Kept 3 := by
 rintro E w hc hf hE hV hN hS _ ⟨⟩
 simp only [opsBkL, gA, gS, gZ]
 have d2 : E (.tmp 29) = .pointer (some ⟨b, 1, none⟩) := hV 2 29 (by kernel_rfl) (by kernel_rfl)
 have c0 : w.cell? ⟨b, 1, none⟩ = some (.map (some mb)) := (cells_at ((hS.block b (lt_blk h0)).trans h0) 1).trans rfl
 refine Fre.dv (v := .map (some mb)) ?_
 go_simp
theorem stBkL_4 (g98 : a0.tmps.getD 8 undef = .pointer (some ⟨dq, 0, none⟩)) : Fre.StepB Tryz.prog opsBkL.1 a0 w0 (VBkL b tb mb dq cl d o f) Fre.Kept 4 := by
 rintro E w hc hf hE hV hN hS _ ⟨⟩
 simp only [opsBkL, gA, gS, gZ]
 have b8 : E (.tmp 8) = .pointer (some ⟨dq, 0, none⟩) := (hE 8 (by kernel_rfl)).trans g98
 clear g98;have hr := run_loadVar_row w dq _ 38 (bA d) _ _ ((hS.block dq (lt_blk h1)).trans h1) Tryz.underlying38 rfl (by rw [info32, bA_size, hd])
 refine Fre.dv (v := .agg (bA d)) ?_
 unfold execOp;simp only [b8, Instr.loadAt, Instr.sureAddr, Sem.run_bind, Sem.run_pure, Result.andThen_ok, hr]
theorem stBkL_5 : Fre.StepB Tryz.prog opsBkL.1 a0 w0 (VBkL b tb mb dq cl d o f) Fre.Kept 5 := by
 rintro E w hc hf hE hV hN hS _ ⟨⟩
 simp only [opsBkL, gA, gS, gZ]
 have d3 : E (.tmp 30) = .map (some mb) := hV 3 30 (by kernel_rfl) (by kernel_rfl)
 have d4 : E (.tmp 31) = .agg (bA d) := hV 4 31 (by kernel_rfl) (by kernel_rfl)
 have hr := hL w hS
 refine Fre.dv (v := .tuple #[o, .bool f]) ?_
 unfold execOp;simp only [d3, d4, Sem.run_bind, hr, Result.andThen_ok]
 rfl
theorem stBkL_6 : Fre.StepB Tryz.prog opsBkL.1 a0 w0 (VBkL b tb mb dq cl d o f) Fre.Kept 6 := by
 rintro E w hc hf hE hV hN hS _ ⟨⟩
 simp only [opsBkL, gA, gS, gZ]
 have d5 : E (.tmp 32) = .tuple #[o, .bool f] := hV 5 32 (by kernel_rfl) (by kernel_rfl)
 refine Fre.dv (v := .tuple #[o, .bool f]) ?_
 go_simp
theorem stBkL_7 : Fre.StepB Tryz.prog opsBkL.1 a0 w0 (VBkL b tb mb dq cl d o f) Fre.Kept 7 := by
 rintro E w hc hf hE hV hN hS _ ⟨⟩
 simp only [opsBkL, gA, gS, gZ]
 have d6 : E (.tmp 26) = .tuple #[o, .bool f] := hV 6 26 (by kernel_rfl) (by kernel_rfl)
 refine Fre.dv (v := o) ?_
 unfold execOp;simp only [d6]
 go_simp
theorem stBkL_8 : Fre.StepB Tryz.prog opsBkL.1 a0 w0 (VBkL b tb mb dq cl d o f) Fre.Kept 8 := by
 rintro E w hc hf hE hV hN hS _ ⟨⟩
 simp only [opsBkL, gA, gS, gZ]
 have d6 : E (.tmp 26) = .tuple #[o, .bool f] := hV 6 26 (by kernel_rfl) (by kernel_rfl)
 refine Fre.dv (v := .bool f) ?_
 unfold execOp;simp only [d6]
 go_simp
theorem stBkL_9 : Fre.StepB Tryz.prog opsBkL.1 a0 w0 (VBkL b tb mb dq cl d o f) Fre.Kept 9 := by
 rintro E w hc hf hE hV hN hS _ ⟨⟩
 simp only [opsBkL, gA, gS, gZ]
 have d7 : E (.tmp 33) = o := hV 7 33 (by kernel_rfl) (by kernel_rfl)
 refine Fre.dv (v := o) ?_
 go_simp
theorem stBkL_10 : Fre.StepB Tryz.prog opsBkL.1 a0 w0 (VBkL b tb mb dq cl d o f) Fre.Kept 10 := by
 rintro E w hc hf hE hV hN hS _ ⟨⟩
 simp only [opsBkL, gA, gS, gZ]
 have d8 : E (.tmp 34) = .bool f := hV 8 34 (by kernel_rfl) (by kernel_rfl)
 refine Fre.dv (v := .bool f) ?_
 go_simp
variable (b tb mb dq cl d o f w0)
theorem regionBkL {QQ : Exit -> Act -> World -> Prop} (hQ : ∀ (vs : Nat -> Value) w, (∀ j, j < 11 -> VBkL b tb mb dq cl d o f j (vs j) w) -> Fre.Kept w0 w -> QQ .normal ⟨#[.pointer (some ⟨b, 0, none⟩), u1, u2, u3, u4, u5, u6, u7, .pointer (some ⟨dq, 0, none⟩), vs 9, vs 10, u11, u12, u13, u14, u15, u16, u17, u18, u19, u20, u21, u22, u23, u24, u25, vs 6, vs 0, vs 1, vs 2, vs 3, vs 4, vs 5, vs 7, vs 8, u35, u36, u37, u38, u39, u40, u41, u42, u43, u44, u45, u46, u47, u48, u49, u50, u51, u52, u53, u54, u55, u56, u57, u58, u59, u60, u61, u62, u63, u64, u65, u66, u67, u68, u69, u70, u71, u72, u73, u74], []⟩ w) : (Code.region 5 opsBkL.1 true).wp Tryz.prog QQ ⟨#[.pointer (some ⟨b, 0, none⟩), u1, u2, u3, u4, u5, u6, u7, .pointer (some ⟨dq, 0, none⟩), u9, u10, u11, u12, u13, u14, u15, u16, u17, u18, u19, u20, u21, u22, u23, u24, u25, u26, u27, u28, u29, u30, u31, u32, u33, u34, u35, u36, u37, u38, u39, u40, u41, u42, u43, u44, u45, u46, u47, u48, u49, u50, u51, u52, u53, u54, u55, u56, u57, u58, u59, u60, u61, u62, u63, u64, u65, u66, u67, u68, u69, u70, u71, u72, u73, u74], []⟩ w0 := by
 refine Fre.region_kept 75 (by kernel_rfl) fitBkL rfl (VBkL b tb mb dq cl d o f) (kpBkL b tb mb dq cl d o f) (fun i hi => ?_) (fun vs w h1 h2 => ?_)
 case refine_2 =>
  have h9 := hQ vs w (fun j hj => h1 j (by rw [sizeBkL]; exact hj)) h2
  exact Fre.fe (p := fun t => QQ .normal ⟨t, []⟩ w) h9 (by kernel_rfl)
 rw [sizeBkL] at hi;rcases cs11 hi with rfl | rfl | rfl | rfl | rfl | rfl | rfl | rfl | rfl | rfl | rfl
 ·exact stBkL_0 h0 h1 hd hL rfl
 ·exact stBkL_1 h0 h1 hd hL
 ·exact stBkL_2 h0 h1 hd hL
 ·exact stBkL_3 h0 h1 hd hL
 ·exact stBkL_4 h0 h1 hd hL rfl
 ·exact stBkL_5 h0 h1 hd hL
 ·exact stBkL_6 h0 h1 hd hL
 ·exact stBkL_7 h0 h1 hd hL
 ·exact stBkL_8 h0 h1 hd hL
 ·exact stBkL_9 h0 h1 hd hL
 ·exact stBkL_10 h0 h1 hd hL
end
def opsBkP : {o : Array Oper // some o = (Tryz.f286.body.bind (Fre.findR 9))} := ⟨_, rfl⟩
theorem fitBkP : Fre.fit .any opsBkP.1 75 = true := by kernel_rfl
theorem sizeBkP : opsBkP.1.size = 7 := by kernel_rfl
theorem tailBkP : Fre.tailFitT .any opsBkP.1 6 = true := by kernel_rfl
def VBkP (b tb mb dq : Nat) (cl : Option Nat) (d : List Nat) (tv : Value) (i : Nat) (v : Value) (w : World) : Prop := match i with
 | 0 => v = .pointer (some ⟨b, 0, none⟩)
 | 1 => v = .pointer (some ⟨b, 0, none⟩)
 | 2 => v = .pointer (some ⟨b, 1, none⟩)
 | 3 => v = .map (some mb)
 | 4 => v = .agg (bA d)
 | 5 => v = tv
 | _ => True
section
variable {u1 u2 u3 u4 u5 u6 u9 u10 u11 u12 u13 u14 u15 u16 u17 u18 u19 u20 u21 u22 u23 u24 u25 u26 u27 u28 u29 u30 u31 u32 u33 u34 u35 u36 u37 u38 u39 u40 u41 u42 u43 u44 u45 u46 u47 u48 u49 u50 u51 u52 u53 u54 u55 u56 u57 u58 u59 u60 u61 u62 u63 u64 u65 u66 u67 u68 u69 u70 u71 u72 u73 u74 : Value}
theorem kpBkP (b tb mb dq : Nat) (cl : Option Nat) (d : List Nat) (tv : Value) : ∀ j v w w', j < 6 -> VBkP b tb mb dq cl d tv j v w -> Fre.Kept w w' -> VBkP b tb mb dq cl d tv j v w' := by
 intro j v w w' hj h hs
 rcases cs6 hj with rfl | rfl | rfl | rfl | rfl | rfl <;> exact h
variable {b tb mb dq : Nat} {cl : Option Nat} {d : List Nat} {tv : Value} {a0 : Act} {w0 : World} (h0 : w0.heap[b]? = some (.cells (bkA tb mb cl) 132 (0, 0))) (h1 : w0.heap[dq]? = some (.cells (bA d) 38 (0, 0))) (hd : d.length = 32)
include h0 h1 hd
theorem stBkP_0 (g90 : a0.tmps.getD 0 undef = .pointer (some ⟨b, 0, none⟩)) : Fre.StepB Tryz.prog opsBkP.1 a0 w0 (VBkP b tb mb dq cl d tv) Fre.Kept 0 := by
 rintro E w hc hf hE hV hN hS _ ⟨⟩
 simp only [opsBkP, gA, gS, gZ]
 have b0 : E (.tmp 0) = .pointer (some ⟨b, 0, none⟩) := (hE 0 (by kernel_rfl)).trans g90
 clear g90;refine Fre.dv (v := .pointer (some ⟨b, 0, none⟩)) ?_
 go_simp
theorem stBkP_1 : Fre.StepB Tryz.prog opsBkP.1 a0 w0 (VBkP b tb mb dq cl d tv) Fre.Kept 1 := by
 rintro E w hc hf hE hV hN hS _ ⟨⟩
 simp only [opsBkP, gA, gS, gZ]
 have d0 : E (.tmp 68) = .pointer (some ⟨b, 0, none⟩) := hV 0 68 (by kernel_rfl) (by kernel_rfl)
 refine Fre.dv (v := .pointer (some ⟨b, 0, none⟩)) ?_
 go_simp
theorem stBkP_2 : Fre.StepB Tryz.prog opsBkP.1 a0 w0 (VBkP b tb mb dq cl d tv) Fre.Kept 2 := by
 rintro E w hc hf hE hV hN hS _ ⟨⟩
 simp only [opsBkP, gA, gS, gZ]
 have d1 : E (.tmp 69) = .pointer (some ⟨b, 0, none⟩) := hV 1 69 (by kernel_rfl) (by kernel_rfl)
 refine Fre.dv (v := .pointer (some ⟨b, 1, none⟩)) ?_
 go_simp
theorem stBkP_3 : Fre.StepB Tryz.prog opsBkP.1 a0 w0 (VBkP b tb mb dq cl d tv) Fre.Kept 3 := by
 rintro E w hc hf hE hV hN hS _ ⟨⟩
 simp only [opsBkP, gA, gS, gZ]
 have d2 : E (.tmp 70) = .pointer (some ⟨b, 1, none⟩) := hV 2 70 (by kernel_rfl) (by kernel_rfl)
 have c0 : w.cell? ⟨b, 1, none⟩ = some (.map (some mb)) := (cells_at ((hS.block b (lt_blk h0)).trans h0) 1).trans rfl
 refine Fre.dv (v := .map (some mb)) ?_
 go_simp
theorem stBkP_4 (g98 : a0.tmps.getD 8 undef = .pointer (some ⟨dq, 0, none⟩)) : Fre.StepB Tryz.prog opsBkP.1 a0 w0 (VBkP b tb mb dq cl d tv) Fre.Kept 4 := by
 rintro E w hc hf hE hV hN hS _ ⟨⟩
 simp only [opsBkP, gA, gS, gZ]
 have b8 : E (.tmp 8) = .pointer (some ⟨dq, 0, none⟩) := (hE 8 (by kernel_rfl)).trans g98
 clear g98;have hr := run_loadVar_row w dq _ 38 (bA d) _ _ ((hS.block dq (lt_blk h1)).trans h1) Tryz.underlying38 rfl (by rw [info32, bA_size, hd])
 refine Fre.dv (v := .agg (bA d)) ?_
 unfold execOp;simp only [b8, Instr.loadAt, Instr.sureAddr, Sem.run_bind, Sem.run_pure, Result.andThen_ok, hr]
theorem stBkP_5 (g97 : a0.tmps.getD 7 undef = tv) : Fre.StepB Tryz.prog opsBkP.1 a0 w0 (VBkP b tb mb dq cl d tv) Fre.Kept 5 := by
 rintro E w hc hf hE hV hN hS _ ⟨⟩
 simp only [opsBkP, gA, gS, gZ]
 have b7 : E (.tmp 7) = tv := (hE 7 (by kernel_rfl)).trans g97
 clear g97;refine Fre.dv (v := tv) ?_
 go_simp
variable (b tb mb dq cl d tv w0)
theorem regionBkP {QQ : Exit -> Act -> World -> Prop} (hQ : ∀ (vs : Nat -> Value) w, (∀ j, j < 6 -> VBkP b tb mb dq cl d tv j (vs j) w) -> Fre.Kept w0 w -> wpList Tryz.prog opsBkP.1 QQ (opsBkP.1.toList.drop 6) ⟨#[.pointer (some ⟨b, 0, none⟩), u1, u2, u3, u4, u5, u6, tv, .pointer (some ⟨dq, 0, none⟩), u9, u10, u11, u12, u13, u14, u15, u16, u17, u18, u19, u20, u21, u22, u23, u24, u25, u26, u27, u28, u29, u30, u31, u32, u33, u34, u35, u36, u37, u38, u39, u40, u41, u42, u43, u44, u45, u46, u47, u48, u49, u50, u51, u52, u53, u54, u55, u56, u57, u58, u59, u60, u61, u62, u63, u64, u65, u66, u67, vs 0, vs 1, vs 2, vs 3, vs 4, vs 5, u74], []⟩ w) : (Code.region 9 opsBkP.1 true).wp Tryz.prog QQ ⟨#[.pointer (some ⟨b, 0, none⟩), u1, u2, u3, u4, u5, u6, tv, .pointer (some ⟨dq, 0, none⟩), u9, u10, u11, u12, u13, u14, u15, u16, u17, u18, u19, u20, u21, u22, u23, u24, u25, u26, u27, u28, u29, u30, u31, u32, u33, u34, u35, u36, u37, u38, u39, u40, u41, u42, u43, u44, u45, u46, u47, u48, u49, u50, u51, u52, u53, u54, u55, u56, u57, u58, u59, u60, u61, u62, u63, u64, u65, u66, u67, u68, u69, u70, u71, u72, u73, u74], []⟩ w0 := by
 refine Fre.region_tailT 75 6 (by kernel_rfl) fitBkP rfl tailBkP (by rw [sizeBkP]; omega) (VBkP b tb mb dq cl d tv) (kpBkP b tb mb dq cl d tv) (fun i hi => ?_) (fun vs w h1 h2 => ?_)
 case refine_2 =>
  have h9 := hQ vs w h1 h2
  exact Fre.fe (p := fun t => wpList Tryz.prog opsBkP.1 QQ (opsBkP.1.toList.drop 6) ⟨t, []⟩ w) h9 (by kernel_rfl)
 rcases cs6 hi with rfl | rfl | rfl | rfl | rfl | rfl
 ·exact stBkP_0 h0 h1 hd rfl
 ·exact stBkP_1 h0 h1 hd
 ·exact stBkP_2 h0 h1 hd
 ·exact stBkP_3 h0 h1 hd
 ·exact stBkP_4 h0 h1 hd rfl
 ·exact stBkP_5 h0 h1 hd rfl
end
theorem rowOf_own {w : World} {q : Nat} {l : List Nat} {n : Nat} (h : w.heap[q]? = some (.cells (bA l) 5 (0, 0))) (hl : l.length = n) (hn : n <= 1000000) {B : Nat} (hB : B <= q) : w.ownsRow B 5 1 (.slice (some ⟨q, 0, none⟩) n n) n (bA l).toList :=
 ⟨by simp [bA, hl], .inr ⟨q, n, bA l, rfl, hB, h, Nat.le_refl _, by unfold maxLen; omega, by simp [bA_size, hl], by rw [Nat.mul_one, List.take_of_length_le (by simp [bA, hl])]⟩⟩
theorem own_pos {w : World} {base : Nat} {e : TypeId} {size : Nat} {v : Value} {n : Nat} {xs : List Value} (h : w.ownsRow base e size v n xs) (hn : 0 < n) : ∃ q c, v = .slice (some ⟨q, 0, none⟩) n c /\ base <= q /\ q < w.heap.size := by
 rcases h.2 with ⟨_, rfl⟩ | ⟨g, cap, cur, h1, h2, h3, _⟩
 ·omega
 ·exact ⟨g, cap, h1, h2, lt_blk h3⟩
theorem own_bytesAt {w : World} {base q n c : Nat} {l : List Nat} (h : w.ownsRow base 5 1 (.slice (some ⟨q, 0, none⟩) n c) n (bA l).toList) (hl : ∀ x ∈ l, x < 256) : l.length = n /\ BytesAt w (some ⟨q, 0, none⟩) c l := by
 have hln : l.length = n := by have := h.1; simpa [bA] using this
 refine ⟨hln, hl, fun h0 => ⟨q, 0, rfl, ?_⟩⟩
 rcases h.2 with ⟨h1, _⟩ | ⟨g, cap, cur, h1, h2, h3, h4, h5, h6, h7⟩
 ·cases h1
 ·cases h1
  refine ⟨by omega, lt_blk h3, fun j hj => ?_⟩
  rw [Nat.zero_add, cells_at h3 j]
  have e : (cur.toList.take (n * 1))[j]? = (bA l).toList[j]? := by rw [h7]
  rw [List.getElem?_take, if_pos (by omega), Array.getElem?_toList, Array.getElem?_toList, bA_get l j hj] at e
  exact e
theorem bkSum_c (k0 : Nat) (hk0 : k0 < 256) {b tb mb : Nat} {cl : Option Nat} {E : List BEnt} {TS : List (List Nat)} (P : Parts) (ps po pc : Nat) (w : World) (h : Bk w b tb mb cl E TS) (hP : PartsIn w ps po P) (h0 : 0 < (catP P).length) (hb8 : ∀ x ∈ catP P, x < 256) (hl : (catP P).length <= 800000) (hn : P.length <= 4294967296) :
  Calls Tryz.prog 286 #[.pointer (some ⟨b, 0, none⟩), .int .u8 (k0 : Int), .slice (some ⟨ps, po, none⟩) P.length pc] w fun r w' => r = .returned (.agg (bA (sumN (k0 :: catP P)))) /\
   ∃ cl' E', Bk w' b tb mb cl' E' (TS ++ [k0 :: catP P]) /\ Chg (fun k => k = b \/ k = mb) w w' /\ ∀ k, bkS b tb mb E' k -> bkS b tb mb E k \/ w.heap.size <= k := by
 obtain ⟨m, hm⟩ : ∃ m, m = (catP P).length := ⟨_, rfl⟩
 rw [<- hm] at h0 hl;obtain ⟨L, hL⟩ : ∃ L, L = catP P := ⟨_, rfl⟩
 obtain ⟨d, hd⟩ : ∃ d, d = sumN (k0 :: L) := ⟨_, rfl⟩
 have hgd : goodD d := hd ▸ sumN_good _
 have HH := Lib.hid h;have HP := Lib.hid hP;have HM := Lib.hid hm;have HL := Lib.hid hL;have HD := Lib.hid hd;have HB8 := Lib.hid hb8;have HGD := Lib.hid hgd;have HK0 := Lib.hid hk0;have h0L := Lib.hid (And.intro h0 hl)
 clear h hP hm hL hd hb8 hgd hk0 h0 hl
 go_enter Tryz.func286, Tryz.ntmps286
 go_upto_region 3 with fail
 generalize hW1 : World.alloc w _ = w1
 have hb1 : Below w.heap.size w w1 := by rw [<- hW1]; exact (Below.refl _ w).alloc (Nat.le_refl _) _
 have hz1 : w1.heap[w.heap.size]? = some (.cells (bA (List.replicate 32 0)) 38 (0, 0)) := by rw [<- hW1]; exact World.alloc_heap_new _ _
 clear hW1;obtain ⟨w2, hw2⟩ : ∃ w2, w2 = w1.alloc (.cells #[.int .u8 (k0 : Int)] 5) := ⟨_, rfl⟩
 have hb2 : Below w1.heap.size w1 w2 := by rw [hw2]; exact (Below.refl _ w1).alloc (Nat.le_refl _) _
 have hk2 : w2.heap[w1.heap.size]? = some (.cells (bA [k0]) 5 (0, 0)) := by rw [hw2]; exact World.alloc_heap_new _ _
 have hO2 := rowOf_own hk2 (n := 1) rfl (by omega) (Nat.le_refl _)
 have hP2 : PartsIn w2 ps po P := (HP.out.up hb1 (Nat.le_refl _)).up hb2 (Nat.le_refl _)
 have HCC := Lib.hid (concatP_c P ps po pc w2 hP2 (by rw [<- HM.out]; exact h0L.out.1) (by rw [<- HM.out]; have := h0L.out.2; omega) hn)
 have HB1 := Lib.hid hb1;have HZ1 := Lib.hid hz1;have HB2 := Lib.hid hb2;have HO2 := Lib.hid hO2;clear hb1 hz1 hb2 hk2 hO2 hP2;go_wp2_with (first | (rw [<- hw2]; refine HCC.out.mono ?_) | fail)
 rintro r w3 ⟨v3, rfl, hown3, hb3⟩
 have HO3 := Lib.hid hown3;have HB3 := Lib.hid hb3;have HO2' : Hid (w3.ownsRow w1.heap.size 5 1 (.slice (some ⟨w1.heap.size, 0, none⟩) 1 1) 1 (bA [k0]).toList) := own_up HO2.out hb3
 have hsz3 := Lib.hid (Nat.le_trans HB2.out.size hb3.size)
 obtain ⟨q3, c3, rfl, hq3, hq3'⟩ := own_pos hown3 (by rw [<- HM.out]; exact h0L.out.1)
 have hBA3 := (own_bytesAt HO3.out HB8.out).2
 have HBA3 := Lib.hid hBA3;clear hown3 hb3 HO2 HCC hw2 hBA3 hq3 hq3';rw [<- HM.out]
 go_upto_region 4 with (first
  | (refine wpList_append_bytes (base := w1.heap.size) (n := 1) (m := m) (l := catP P) rfl (.tmp 15) (.tmp 17) rfl rfl HO2'.out rfl HM.out.symm HBA3.out (fun e => by cases e) (by have := h0L.out.2; omega) hsz3.out ?_; intro v4 w4 hown4 hgr4; have HO4 : Hid (w4.ownsRow w1.heap.size 5 1 v4 (1 + m) (bA (k0 :: L)).toList) := (by rw [HL.out, show k0 :: catP P = [k0] ++ catP P from rfl, <- bA_apps]; exact hown4); have HB4 : Hid (Below w1.heap.size w1 w4) := (HB2.out.trans (HB3.out.mono HB2.out.size)).grown hgr4 hsz3.out (own_base HO2'.out); clear hown4 hgr4 HO2' HBA3 HO3 HB2 HB3 hsz3; obtain ⟨q4, c4, rfl, hq4, hq4'⟩ := own_pos HO4.out (Nat.lt_of_lt_of_le Nat.zero_lt_one (Nat.le_add_right 1 m)))
  | fail)
 have hB4 : Below w.heap.size w w4 := HB1.out.trans (HB4.out.mono HB1.out.size)
 have hk4 : Bk w4 b tb mb cl E TS := (HH.out.on.below hB4).holds
 have c40 : w4.cell? ⟨b, 0, none⟩ = some (.func (.func 12) #[.pointer (some ⟨tb, 0, none⟩)] #[]) := (cells_at hk4.blk 0).trans rfl
 have hby : ∀ x ∈ k0 :: L, x < 256 := fun x hx => by
  rcases List.mem_cons.1 hx with rfl | h
  ·exact HK0.out
  ·exact HB8.out x (HL.out ▸ h)
 obtain ⟨hln, hBA4⟩ := own_bytesAt HO4.out hby
 obtain ⟨w5, hw5⟩ : ∃ w5, w5 = w4.alloc (.cells #[.slice (some ⟨q4, 0, none⟩) (1 + m) c4] 22) := ⟨_, rfl⟩
 have hb5 : Below w4.heap.size w4 w5 := by rw [hw5]; exact (Below.refl _ _).alloc (Nat.le_refl _) _
 have hx5 : w5.heap[w4.heap.size]? = some (.cells #[.slice (some ⟨q4, 0, none⟩) (1 + m) c4] 22 (0, 0)) := by rw [hw5]; exact World.alloc_heap_new _ _
 have hts := tsum_c tb w4.heap.size 0 1 [(some ⟨q4, 0, none⟩, c4, k0 :: L)] w5 ((hb5.block _ (lt_blk hk4.tbl)).trans hk4.tbl) (lt_blk hx5) (fun k s hs => by
  cases k with
  | zero =>
   obtain rfl : s = (some ⟨q4, 0, none⟩, c4, k0 :: L) := (Option.some.inj hs).symm
   refine ⟨?_, hBA4.up hb5 (Nat.le_refl _), nofun, fun g o e => ?_⟩
   ·rw [show 0 + 0 = 0 from rfl, cells_at hx5 0, hln]; rfl
   ·injection e with e; injection e with e1 e2; rw [<- e1]; exact Nat.lt_of_lt_of_le hq4' hb5.size
  | succ k => simp at hs) (by simp) (by simp [catP]; rw [HL.out, <- HM.out]; have := h0L.out.2; omega)
 rw [show catP [(some (⟨q4, 0, none⟩ : Addr), c4, k0 :: L)] = k0 :: L by simp [catP], <- HD.out] at hts
 have HTS := Lib.hid hts;have HB4' := Lib.hid hB4
 have HB5 := Lib.hid hb5;have HK4 := Lib.hid hk4;clear hB4 hk4 hby hln hBA4 hb5 hx5 hts;go_wp2_with (first | (rw [<- hw5]; refine HTS.out.mono ?_) | fail)
 rintro r w6 ⟨rfl, hb6⟩
 have HB6 : Hid (Below w.heap.size w w6) := HB4'.out.trans ((HB5.out.trans (hb6.mono HB5.out.size)).mono HB4'.out.size)
 have HB46 : Hid (Below w4.heap.size w4 w6) := HB5.out.trans (hb6.mono HB5.out.size)
 clear hb6 HTS hw5 HB5;have HGS : Hid ((bA d).size = 32) := by rw [bA_size]; exact HGD.out.1
 go_upto_region 5 with (first
  | (refine wpList_store_row rfl 38 (.tmp 8) (.tmp 25) rfl w6.heap.size (bA d) rfl rfl 38 (bA (List.replicate 32 0)) (World.alloc_heap_new _ _) (by rw [info32, HGS.out]) (by rw [HGS.out]; rfl) (bA_oneS _) ?_)
  | fail)
 generalize hW8 : World.setRow _ _ _ = w8
 have hr8 : Below w6.heap.size w6 w8 := by rw [<- hW8]; exact below_setRow ((Below.refl _ _).alloc (Nat.le_refl _) _) (Nat.le_refl _) _
 have hx8 : w8.heap[w6.heap.size]? = some (.cells (bA d) 38 (0, 0)) := by rw [<- hW8]; exact setRow_heap _ _ _ _ _ _ (World.alloc_heap_new _ _)
 clear hW8;have HB8w : Hid (Below w.heap.size w w8) := HB6.out.trans (hr8.mono HB6.out.size)
 have HB48 : Hid (Below w4.heap.size w4 w8) := HB46.out.trans (hr8.mono HB46.out.size)
 have HX8 := Lib.hid hx8;have HZ8 : Hid (w8.heap[w.heap.size]? = some (.cells (bA (List.replicate 32 0)) 38 (0, 0))) := ((HB4.out.trans (HB48.out.mono HB4.out.size)).block _ (lt_blk HZ1.out)).trans HZ1.out
 have hk8 : Bk w8 b tb mb cl E (TS ++ [k0 :: L]) := ((HK4.out.on.below HB48.out).holds).more (fun x hx => List.mem_append_left _ hx)
 have HT8 : Hid (BytesAt w8 (some ⟨q4, 0, none⟩) c4 (k0 :: L) /\ (k0 :: L).length = 1 + m) := Lib.hid (by
  have hby : ∀ x ∈ k0 :: L, x < 256 := fun x hx => by
   rcases List.mem_cons.1 hx with rfl | h
   ·exact HK0.out
   ·exact HB8.out x (HL.out ▸ h)
  exact ⟨(own_bytesAt HO4.out hby).2.up HB48.out (Nat.le_refl _), (own_bytesAt HO4.out hby).1⟩)
 have HSH : Hid (∀ k, bkS b tb mb E k -> k < w.heap.size) := Lib.hid HH.out.on.lt
 have HQ4 : Hid (w.heap.size < q4 /\ q4 ≠ mb) := Lib.hid (by
  have h1 := lt_blk HZ1.out
  refine ⟨by omega, ?_⟩
  rintro rfl
  have := HSH.out q4 (.inr (.inr (.inl rfl)))
  omega)
 clear hx8 hr8;rcases hk8.map.look digKT d HGD.out with ⟨_, hno⟩ | ⟨x, hx, hxd, _⟩
 ·have HK8 := Lib.hid hk8
  have HNO := Lib.hid hno;clear hk8 hno;refine regionBkL b tb mb w6.heap.size cl d (.slice none 0 0) false w8 HK8.out.blk HX8.out HGD.out.1 (fun w' hw' => MapB.look_none digKT ((HK8.out.on.below hw').holds).map d HGD.out HNO.out) ?_
  intro vs w9 hv hk9;have v9 : vs 9 = .slice none 0 0 := hv 9 (by omega)
  have v10 : vs 10 = .bool false := hv 10 (by omega)
  rw [v9, v10]
  have HK9 : Hid (Bk w9 b tb mb cl E (TS ++ [k0 :: L])) := Lib.hid (HK8.out.on.below hk9).holds
  have HX9 : Hid (w9.heap[w6.heap.size]? = some (.cells (bA d) 38 (0, 0))) := (hk9.block _ (lt_blk HX8.out)).trans HX8.out
  have HZ9 : Hid (w9.heap[w.heap.size]? = some (.cells (bA (List.replicate 32 0)) 38 (0, 0))) := (hk9.block _ (lt_blk HZ8.out)).trans HZ8.out
  have HT9 : Hid (BytesAt w9 (some ⟨q4, 0, none⟩) c4 (k0 :: L)) := HT8.out.1.up hk9 (Nat.le_refl _)
  have HB9 : Hid (Below w.heap.size w w9) := HB8w.out.trans (hk9.mono HB8w.out.size)
  have c91 : w9.cell? ⟨b, 1, none⟩ = some (.map (some mb)) := (cells_at HK9.out.blk 1).trans rfl
  clear v9 v10 hv hk9 HX8 HZ8 HK8 HB8w HB48
  by_cases hfull : E.length < 16384
  ·have dl : ((E.length : Nat) : Int) < 16384 := by omega
   have hlen := HK9.out.map.len Tryz.underlying129 3
   go_upto_region 9 with fail
   refine regionBkP b tb mb w6.heap.size cl d (.slice (some ⟨q4, 0, none⟩) (1 + m) c4) w9 HK9.out.blk HX9.out HGD.out.1 ?_
   intro vs2 w10 hv2 hk10;have u3 : vs2 3 = .map (some mb) := hv2 3 (by omega)
   have u4 : vs2 4 = .agg (bA d) := hv2 4 (by omega)
   have u5 : vs2 5 = .slice (some ⟨q4, 0, none⟩) (1 + m) c4 := hv2 5 (by omega)
   rw [u3, u4, u5]
   have HK10 : Hid (Bk w10 b tb mb cl E (TS ++ [k0 :: L])) := Lib.hid (HK9.out.on.below hk10).holds
   have HB10 : Hid (Below w.heap.size w w10) := HB9.out.trans (hk10.mono HB9.out.size)
   have HT10 := Lib.hid (HT9.out.up hk10 (Nat.le_refl _))
   have HXY10 : Hid (w10.heap[w6.heap.size]? = some (.cells (bA d) 38 (0, 0)) /\ w10.heap[w.heap.size]? = some (.cells (bA (List.replicate 32 0)) 38 (0, 0))) := ⟨(hk10.block _ (lt_blk HX9.out)).trans HX9.out, (hk10.block _ (lt_blk HZ9.out)).trans HZ9.out⟩
   clear u3 u4 u5 hv2 hk10 hlen dl c91;simp only [opsBkP, List.drop_succ_cons, List.drop_zero]
   refine MapB.wpList_put digKT HK10.out.map d HGD.out HNO.out q4 c4 (1 + m) (k0 :: L) HT8.out.2 (by omega) HT10.out HQ4.out.2 rfl (.tmp 71) (.tmp 72) (.tmp 73) rfl rfl rfl rfl ?_
   intro w11 hm11 hc11 hsz11;have hbn := HK10.out.bne
   have hBZ : Bk w11 b tb mb cl (E ++ [⟨d, q4, c4, k0 :: L⟩]) (TS ++ [k0 :: L]) :=
    ⟨(hc11.block b (lt_blk HK10.out.blk) hbn.1).trans HK10.out.blk, (hc11.block tb (lt_blk HK10.out.tbl) hbn.2.2.1).trans HK10.out.tbl, hm11, fun x hx => by
     rcases List.mem_append.1 hx with h | h
     ·exact HK10.out.txt x h
     ·obtain rfl : x = ⟨d, q4, c4, k0 :: L⟩ := by simpa using h
      exact ⟨List.mem_append_right _ (List.mem_singleton.2 rfl), HD.out⟩, HK10.out.cls⟩
   have HBZ := Lib.hid hBZ;have HCZ : Hid (Chg (fun k => k = b \/ k = mb) w w11) := Lib.hid ((Chg.of_below HB10.out).trans' (hc11.mono fun k _ hk => .inr hk))
   have HXZ : Hid (w11.heap[w6.heap.size]? = some (.cells (bA d) 38 (0, 0)) /\ w11.heap[w.heap.size]? = some (.cells (bA (List.replicate 32 0)) 38 (0, 0))) := by
    have h1 := HSH.out mb (.inr (.inr (.inl rfl)))
    have h2 := HB6.out.size
    exact ⟨(hc11.block _ (lt_blk HXY10.out.1) (by omega)).trans HXY10.out.1, (hc11.block _ (lt_blk HXY10.out.2) (by omega)).trans HXY10.out.2⟩
   have HNZ : Hid (∀ k, bkS b tb mb (E ++ [⟨d, q4, c4, k0 :: L⟩]) k -> bkS b tb mb E k \/ w.heap.size <= k) := Lib.hid fun k hk => by
    rcases hk with rfl | rfl | rfl | ⟨x, hx, rfl⟩
    ·exact .inl (.inl rfl)
    ·exact .inl (.inr (.inl rfl))
    ·exact .inl (.inr (.inr (.inl rfl)))
    ·rcases List.mem_append.1 hx with h | h
     ·exact .inl (.inr (.inr (.inr ⟨x, h, rfl⟩)))
     ·obtain rfl : x = ⟨d, q4, c4, k0 :: L⟩ := by simpa using h
      exact .inr (Nat.le_of_lt HQ4.out.1)
   have HNE : Hid (∀ k, bkS b tb mb (E ++ [⟨d, q4, c4, k0 :: L⟩]) k -> k ≠ w.heap.size) := Lib.hid fun k hk => by
    rcases hk with rfl | rfl | rfl | ⟨x, hx, rfl⟩
    ·have := HSH.out k (.inl rfl); omega
    ·have := HSH.out k (.inr (.inl rfl)); omega
    ·have := HSH.out k (.inr (.inr (.inl rfl))); omega
    ·rcases List.mem_append.1 hx with h | h
     ·have := HSH.out x.q (.inr (.inr (.inr ⟨x, h, rfl⟩))); omega
     ·obtain rfl : x = ⟨d, q4, c4, k0 :: L⟩ := by simpa using h
      have := HQ4.out.1
      show q4 ≠ _
      omega
   clear hm11 hc11 hsz11 hbn hBZ;go_wp2_with (first
    | (refine wpList_load_row rfl 38 (.tmp 8) rfl w6.heap.size rfl _ _ _ _ HXZ.out.1 Tryz.underlying38 rfl (by rw [info32, HGS.out]) ?_)
    | (refine wpList_store_row rfl 38 (.tmp 6) (.tmp 74) rfl w.heap.size (bA d) rfl rfl 38 _ HXZ.out.2 (by rw [info32, HGS.out]) (by rw [HGS.out]; rfl) (bA_oneS _) ?_)
    | fail)
   refine bodyPost_ret (results_cell_row rfl _ _ w.heap.size 38 (bA d) (0, 0) _ rfl (setRow_heap _ _ _ _ _ _ HXZ.out.2) Tryz.underlying38 rfl (by rw [info32, HGS.out])) rfl ⟨by rw [HD.out, HL.out], ?_⟩
   have HSET := Chg.setRow (S := (· = w.heap.size)) w11 w.heap.size (bA d) rfl
   refine ⟨cl, (E ++ [⟨d, q4, c4, k0 :: L⟩]), ?_, ?_, HNZ.out⟩
   ·rw [<- HL.out]
    refine (HBZ.out.on.chg HSET ?_).holds
    intro k hk e;have h1 := HNE.out k hk
    omega
   ·exact HCZ.out.trans HSET (fun i hi => .inr (Nat.le_of_eq hi.symm))
  ·have dl : ¬ ((E.length : Nat) : Int) < 16384 := by omega
   have hlen := HK9.out.map.len Tryz.underlying129 3
   have HBZ : Hid (Bk w9 b tb mb cl E (TS ++ [k0 :: L])) := HK9
   have HCZ : Hid (Chg (fun k => k = b \/ k = mb) w w9) := Lib.hid (Chg.of_below HB9.out)
   have HXZ : Hid (w9.heap[w6.heap.size]? = some (.cells (bA d) 38 (0, 0)) /\ w9.heap[w.heap.size]? = some (.cells (bA (List.replicate 32 0)) 38 (0, 0))) := ⟨HX9.out, HZ9.out⟩
   have HNZ : Hid (∀ k, bkS b tb mb E k -> bkS b tb mb E k \/ w.heap.size <= k) := Lib.hid fun k hk => .inl hk
   have HNE : Hid (∀ k, bkS b tb mb E k -> k ≠ w.heap.size) := Lib.hid fun k hk => by have := HSH.out k hk; omega
   go_wp2_with (first
    | (refine wpList_load_row rfl 38 (.tmp 8) rfl w6.heap.size rfl _ _ _ _ HXZ.out.1 Tryz.underlying38 rfl (by rw [info32, HGS.out]) ?_)
    | (refine wpList_store_row rfl 38 (.tmp 6) (.tmp 74) rfl w.heap.size (bA d) rfl rfl 38 _ HXZ.out.2 (by rw [info32, HGS.out]) (by rw [HGS.out]; rfl) (bA_oneS _) ?_)
    | fail)
   refine bodyPost_ret (results_cell_row rfl _ _ w.heap.size 38 (bA d) (0, 0) _ rfl (setRow_heap _ _ _ _ _ _ HXZ.out.2) Tryz.underlying38 rfl (by rw [info32, HGS.out])) rfl ⟨by rw [HD.out, HL.out], ?_⟩
   have HSET := Chg.setRow (S := (· = w.heap.size)) w9 w.heap.size (bA d) rfl
   refine ⟨cl, E, ?_, ?_, HNZ.out⟩
   ·rw [<- HL.out]
    refine (HBZ.out.on.chg HSET ?_).holds
    intro k hk e;have h1 := HNE.out k hk
    omega
   ·exact HCZ.out.trans HSET (fun i hi => .inr (Nat.le_of_eq hi.symm))
 ·obtain rfl : x.k = d := hxd
  have hxt := hk8.txt x hx
  have HXT := Lib.hid hxt;have HK8 := Lib.hid hk8;have HXM := Lib.hid hx;refine regionBkL b tb mb w6.heap.size cl x.k (.slice (some ⟨x.q, 0, none⟩) x.b.length x.c) true w8 HK8.out.blk HX8.out HGD.out.1 (fun w' hw' => MapB.look_some digKT ((HK8.out.on.below hw').holds).map x HXM.out) ?_
  intro vs w9 hv hk9;have v9 : vs 9 = .slice (some ⟨x.q, 0, none⟩) x.b.length x.c := hv 9 (by omega)
  have v10 : vs 10 = .bool true := hv 10 (by omega)
  rw [v9, v10]
  have HK9 : Hid (Bk w9 b tb mb cl E (TS ++ [k0 :: L])) := Lib.hid (HK8.out.on.below hk9).holds
  have HX9 : Hid (w9.heap[w6.heap.size]? = some (.cells (bA x.k) 38 (0, 0))) := (hk9.block _ (lt_blk HX8.out)).trans HX8.out
  have HZ9 : Hid (w9.heap[w.heap.size]? = some (.cells (bA (List.replicate 32 0)) 38 (0, 0))) := (hk9.block _ (lt_blk HZ8.out)).trans HZ8.out
  have HT9 : Hid (BytesAt w9 (some ⟨q4, 0, none⟩) c4 (k0 :: L)) := HT8.out.1.up hk9 (Nat.le_refl _)
  have HB9 : Hid (Below w.heap.size w w9) := HB8w.out.trans (hk9.mono HB8w.out.size)
  have HEQ := Lib.hid (equalB_c (some ⟨x.q, 0, none⟩) (some ⟨q4, 0, none⟩) x.c c4 x.b.length (1 + m) x.b (k0 :: L) rfl HT8.out.2 w9 (HK9.out.map.bytes x HXM.out).2.2 HT9.out)
  clear v9 v10 hv hk9 HX8 HZ8 HK8 HB8w HB48 hx hxt;have c92 : w9.cell? ⟨b, 2, none⟩ = some (.pointer (cl.map fun q => ⟨q, 0, none⟩)) := (cells_at HK9.out.blk 2).trans rfl
  go_wp2_with fail
  refine HEQ.out.mono ?_
  rintro r w' ⟨rfl, rfl⟩
  by_cases heq : x.b = k0 :: L
  ·have de : decide (x.b = k0 :: L) = true := decide_eq_true heq
   clear heq;have HBZ : Hid (Bk w9 b tb mb cl E (TS ++ [k0 :: L])) := HK9
   have HCZ : Hid (Chg (fun k => k = b \/ k = mb) w w9) := Lib.hid (Chg.of_below HB9.out)
   have HXZ : Hid (w9.heap[w6.heap.size]? = some (.cells (bA x.k) 38 (0, 0)) /\ w9.heap[w.heap.size]? = some (.cells (bA (List.replicate 32 0)) 38 (0, 0))) := ⟨HX9.out, HZ9.out⟩
   rw [de];clear de;go_wp2_with (first
    | (refine wpList_load_row rfl 38 (.tmp 8) rfl w6.heap.size rfl _ _ _ _ HXZ.out.1 Tryz.underlying38 rfl (by rw [info32, HGS.out]) ?_)
    | (refine wpList_store_row rfl 38 (.tmp 6) (.tmp 74) rfl w.heap.size (bA x.k) rfl rfl 38 _ HXZ.out.2 (by rw [info32, HGS.out]) (by rw [HGS.out]; rfl) (bA_oneS _) ?_)
    | fail)
   refine bodyPost_ret (results_cell_row rfl _ _ w.heap.size 38 (bA x.k) (0, 0) _ rfl (setRow_heap _ _ _ _ _ _ HXZ.out.2) Tryz.underlying38 rfl (by rw [info32, HGS.out])) rfl ⟨by rw [HD.out, HL.out], ?_⟩
   have HSET := Chg.setRow (S := (· = w.heap.size)) w9 w.heap.size (bA x.k) rfl
   refine ⟨cl, E, ?_, HCZ.out.trans HSET (fun i hi => .inr (Nat.le_of_eq hi.symm)), fun k hk => .inl hk⟩
   rw [<- HL.out];refine (HBZ.out.on.chg HSET ?_).holds
   intro k hk e;have h1 := HSH.out k hk
   omega
  ·have de : decide (x.b = k0 :: L) = false := decide_eq_false heq
   rw [de];clear de
   cases cl with
   | some q =>
    have hpn : (Value.pointer (some (⟨q, 0, none⟩ : Addr)) = Value.pointer none) = False := by simp
    have HBZ : Hid (Bk w9 b tb mb (some q) E (TS ++ [k0 :: L])) := HK9
    have HCZ : Hid (Chg (fun k => k = b \/ k = mb) w w9) := Lib.hid (Chg.of_below HB9.out)
    have HXZ : Hid (w9.heap[w6.heap.size]? = some (.cells (bA x.k) 38 (0, 0)) /\ w9.heap[w.heap.size]? = some (.cells (bA (List.replicate 32 0)) 38 (0, 0))) := ⟨HX9.out, HZ9.out⟩
    go_wp2_with (first
     | (refine wpList_load_row rfl 38 (.tmp 8) rfl w6.heap.size rfl _ _ _ _ HXZ.out.1 Tryz.underlying38 rfl (by rw [info32, HGS.out]) ?_)
     | (refine wpList_store_row rfl 38 (.tmp 6) (.tmp 74) rfl w.heap.size (bA x.k) rfl rfl 38 _ HXZ.out.2 (by rw [info32, HGS.out]) (by rw [HGS.out]; rfl) (bA_oneS _) ?_)
     | fail)
    refine bodyPost_ret (results_cell_row rfl _ _ w.heap.size 38 (bA x.k) (0, 0) _ rfl (setRow_heap _ _ _ _ _ _ HXZ.out.2) Tryz.underlying38 rfl (by rw [info32, HGS.out])) rfl ⟨by rw [HD.out, HL.out], ?_⟩
    have HSET := Chg.setRow (S := (· = w.heap.size)) w9 w.heap.size (bA x.k) rfl
    refine ⟨(some q), E, ?_, HCZ.out.trans HSET (fun i hi => .inr (Nat.le_of_eq hi.symm)), fun k hk => .inl hk⟩
    rw [<- HL.out];refine (HBZ.out.on.chg HSET ?_).holds
    intro k hk e;have h1 := HSH.out k hk
    omega
   | none =>
    obtain ⟨w10, hw10⟩ : ∃ w10, w10 = w9.alloc (.cells #[.slice (some ⟨x.q, 0, none⟩) x.b.length x.c, .slice (some ⟨q4, 0, none⟩) (1 + m) c4] 134) := ⟨_, rfl⟩
    have hb10 : Below w9.heap.size w9 w10 := by rw [hw10]; exact (Below.refl _ _).alloc (Nat.le_refl _) _
    have hk10 : Bk w10 b tb mb none E (TS ++ [k0 :: L]) := (HK9.out.on.below hb10).holds
    have c102 : w10.cell? ⟨b, 2, none⟩ = some (.pointer none) := (cells_at hk10.blk 2).trans rfl
    have f102 : w10.frozen? ⟨b, 2, none⟩ = false := free_at hk10.blk 2
    obtain ⟨w11, hw11⟩ : ∃ w11, w11 = w10.setCell ⟨b, 2, none⟩ (.pointer (some ⟨w9.heap.size, 0, none⟩)) := ⟨_, rfl⟩
    have hc11 : Chg (· = b) w10 w11 := by rw [hw11]; exact Chg.setCell w10 b 2 _ rfl
    have hblk11 : w11.heap[b]? = some (.cells (bkA tb mb (some w9.heap.size)) 132 (0, 0)) := by rw [hw11]; exact block_at hk10.blk 2 _
    have hbn := hk10.bne
    have hmp : MapB dV goodD w11 mb E := (hk10.map.on.chg hc11 (fun k hk e => by
     subst e;rcases hk with h | ⟨y, hy, h⟩
     ·exact hbn.1 h
     ·exact hbn.2.2.2 y hy h)).holds
    have HBZ : Hid (Bk w11 b tb mb (some w9.heap.size) E (TS ++ [k0 :: L])) := ⟨hblk11, (hc11.block tb (lt_blk hk10.tbl) (fun e => hbn.2.1 e.symm)).trans hk10.tbl, hmp, hk10.txt, fun hi => by
     exact absurd (hi x.b HXT.out.1 (k0 :: L) (List.mem_append_right _ (List.mem_singleton.2 rfl)) (HXT.out.2.symm.trans HD.out)) heq⟩
    have HB10 : Hid (Below w.heap.size w w10) := HB9.out.trans (hb10.mono HB9.out.size)
    have HCZ : Hid (Chg (fun k => k = b \/ k = mb) w w11) := Lib.hid ((Chg.of_below HB10.out).trans' (hc11.mono fun k _ hk => .inl hk))
    have hxy : w10.heap[w6.heap.size]? = some (.cells (bA x.k) 38 (0, 0)) /\ w10.heap[w.heap.size]? = some (.cells (bA (List.replicate 32 0)) 38 (0, 0)) := ⟨(hb10.block _ (lt_blk HX9.out)).trans HX9.out, (hb10.block _ (lt_blk HZ9.out)).trans HZ9.out⟩
    have hbw := HSH.out b (.inl rfl)
    have HXZ : Hid (w11.heap[w6.heap.size]? = some (.cells (bA x.k) 38 (0, 0)) /\ w11.heap[w.heap.size]? = some (.cells (bA (List.replicate 32 0)) 38 (0, 0))) := by
     have h2 := HB6.out.size
     exact ⟨(hc11.block _ (lt_blk hxy.1) (by omega)).trans hxy.1, (hc11.block _ (lt_blk hxy.2) (by omega)).trans hxy.2⟩
    clear hb10 hk10 hc11 hblk11 hbn hmp hxy hbw
    go_upto_region 7 with fail
    go_upto_region 10 with (first
     | (rw [<- hw10]; clear hw10)
     | fail)
    rw [<- hw11];clear hw11;go_wp2_with (first
     | (refine wpList_load_row rfl 38 (.tmp 8) rfl w6.heap.size rfl _ _ _ _ HXZ.out.1 Tryz.underlying38 rfl (by rw [info32, HGS.out]) ?_)
     | (refine wpList_store_row rfl 38 (.tmp 6) (.tmp 74) rfl w.heap.size (bA x.k) rfl rfl 38 _ HXZ.out.2 (by rw [info32, HGS.out]) (by rw [HGS.out]; rfl) (bA_oneS _) ?_)
     | fail)
    refine bodyPost_ret (results_cell_row rfl _ _ w.heap.size 38 (bA x.k) (0, 0) _ rfl (setRow_heap _ _ _ _ _ _ HXZ.out.2) Tryz.underlying38 rfl (by rw [info32, HGS.out])) rfl ⟨by rw [HD.out, HL.out], ?_⟩
    have HSET := Chg.setRow (S := (· = w.heap.size)) w11 w.heap.size (bA x.k) rfl
    refine ⟨(some w9.heap.size), E, ?_, HCZ.out.trans HSET (fun i hi => .inr (Nat.le_of_eq hi.symm)), fun k hk => .inl hk⟩
    rw [<- HL.out];refine (HBZ.out.on.chg HSET ?_).holds
    intro k hk e;have h1 := HSH.out k hk
    omega
def BkTo (w w' : World) (b tb mb : Nat) (E : List BEnt) (TS : List (List Nat)) : Prop :=
 ∃ cl' E', Bk w' b tb mb cl' E' TS /\ Chg (fun k => k = b \/ k = mb) w w' /\ ∀ k, bkS b tb mb E' k -> bkS b tb mb E k \/ w.heap.size <= k
theorem BkTo.around {w w1 w2 w3 : World} {b tb mb : Nat} {cl : Option Nat} {E : List BEnt} {TS TS' : List (List Nat)} {S : BSet} (h : Bk w b tb mb cl E TS) (hb : Below w.heap.size w w1) (k : BkTo w1 w2 b tb mb E TS') (hc : Chg S w2 w3) (hS : ∀ i, S i -> w.heap.size <= i /\ i < w1.heap.size) : BkTo w w3 b tb mb E TS' := by
 obtain ⟨cl', E', h1, h2, h3⟩ := k
 have hw := h.on.lt
 refine ⟨cl', E', (h1.on.chg hc fun i hi hs => ?_).holds, ((Chg.of_below hb).trans' h2).trans hc (fun i hi => .inr (hS i hi).1), fun i hi => ?_⟩
 ·rcases h3 i hi with h4 | h4
  ·have := hw i h4; have := (hS i hs).1; omega
  ·have := (hS i hs).2; omega
 ·rcases h3 i hi with h4 | h4
  ·exact .inl h4
  ·exact .inr (Nat.le_trans hb.size h4)
theorem BkTo.more {w w' : World} {b tb mb : Nat} {E : List BEnt} {TS TS' : List (List Nat)} (h : BkTo w w' b tb mb E TS) (hs : ∀ x ∈ TS, x ∈ TS') : BkTo w w' b tb mb E TS' := by
 obtain ⟨cl', E', h1, h2⟩ := h
 exact ⟨cl', E', h1.more hs, h2⟩
theorem parts_of {w : World} {ps : Nat} {A : Array Value} {ty : TypeId} {z : Nat × Nat} {P : Parts} (h : w.heap[ps]? = some (.cells A ty z)) (hA : A.toList = P.map fun s => Value.slice s.1 s.2.2.length s.2.1) (hB : ∀ s ∈ P, BytesAt w s.1 s.2.1 s.2.2 /\ 0 < s.2.2.length) : PartsIn w ps 0 P := by
 refine ⟨lt_blk h, fun k s hs => ⟨?_, (hB s (List.mem_of_getElem? hs)).1, (hB s (List.mem_of_getElem? hs)).2⟩⟩
 rw [Nat.zero_add, cells_at h k, <- Array.getElem?_toList, hA, List.getElem?_map, hs]; rfl
def leafT (k : Nat) (l : List Nat) : List Nat := 0 :: (lowB 4 k ++ l)
def nodeT (lv i : Nat) (x y : List Nat) : List Nat := 1 :: (lv % 256 :: (lowB 4 i ++ (x ++ y)))
def rootT (n : Nat) (t : List Nat) : List Nat := 2 :: (lowB 4 n ++ t)
theorem u64_natT (k : Nat) (h : k < 9223372036854775808) : IntKind.u64.wrap (k : Int) = (k : Int) := by rw [IntKind.wrap_u64]; omega
theorem treeSum_c {b tb mb : Nat} {cl : Option Nat} {E : List BEnt} {TS : List (List Nat)} (k n : Nat) (hk : k < 4294967296) (a : Option Addr) (cap : Nat) (l : List Nat) (hl : l.length = n) (h0 : 0 < n) (hn : n <= 100000) (w : World) (h : Bk w b tb mb cl E TS) (hB : BytesAt w a cap l) :
  Calls Tryz.prog 231 #[.pointer (some ⟨b, 0, none⟩), .int .i64 (k : Int), .slice a n cap] w fun r w' => r = .returned (.agg (bA (sumN (leafT k l)))) /\ BkTo w w' b tb mb E (TS ++ [leafT k l]) := by
 have HH := Lib.hid h;have HB := Lib.hid hB;have HL := Lib.hid hl;have HN := Lib.hid (And.intro h0 hn)
 have eu := u64_natT k (by omega)
 have HGS : Hid ((bA (sumN (leafT k l))).size = 32) := by rw [bA_size]; exact sum_len _
 obtain ⟨d, hd⟩ : ∃ d, d = sumN (leafT k l) := ⟨_, rfl⟩
 have HD := Lib.hid hd;rw [<- hd] at HGS ⊢
 clear h hB hl h0 hn hd
 go_enter Tryz.func231, Tryz.ntmps231
 go_upto_region 1 with fail
 generalize hW1 : World.alloc w _ = w1
 have hb1 : Below w.heap.size w w1 := by rw [<- hW1]; exact (Below.refl _ w).alloc (Nat.le_refl _) _
 have hz1 : w1.heap[w.heap.size]? = some (.cells (bA (List.replicate 32 0)) 38 (0, 0)) := by rw [<- hW1]; exact World.alloc_heap_new _ _
 clear hW1;have HB1 := Lib.hid hb1;have HZ1 := Lib.hid hz1;clear hb1 hz1;have HPT := Lib.hid (put_c 4 k (by omega) (by omega) (by omega) 4 (k : Int) rfl rfl w1)
 go_wp2_with fail
 refine HPT.out.mono ?_
 rintro r w2 ⟨q, rfl, hq1, hq2, hq3, hb2⟩
 obtain ⟨w3, hw3⟩ : ∃ w3, w3 = w2.alloc (.cells #[.slice (some ⟨q, 0, none⟩) 4 4, .slice a n cap] 22) := ⟨_, rfl⟩
 have hb3 : Below w2.heap.size w2 w3 := by rw [hw3]; exact (Below.refl _ _).alloc (Nat.le_refl _) _
 have hx3 : w3.heap[w2.heap.size]? = some (.cells #[.slice (some ⟨q, 0, none⟩) 4 4, .slice a n cap] 22 (0, 0)) := by rw [hw3]; exact World.alloc_heap_new _ _
 have hb13 : Below w1.heap.size w1 w3 := hb2.trans (hb3.mono hb2.size)
 have hb03 : Below w.heap.size w w3 := HB1.out.trans (hb13.mono HB1.out.size)
 have hpi : PartsIn w3 w2.heap.size 0 [(some ⟨q, 0, none⟩, 4, lowB 4 k), (a, cap, l)] := by
  refine parts_of hx3 (by simp [lowB_len, HL.out]) fun s hs => ?_
  rcases List.mem_cons.1 hs with rfl | hs
  ·have hq3' := bytesAt_block (lowB_lt 4 k) hq3
   rw [lowB_len] at hq3'
   exact ⟨hq3'.up hb3 (Nat.le_refl _), by rw [lowB_len]; decide⟩
  ·obtain rfl : s = (a, cap, l) := by simpa using hs
   exact ⟨HB.out.up hb03 (Nat.le_refl _), by show 0 < l.length; rw [HL.out]; exact HN.out.1⟩
 have hcat : catP [(some (⟨q, 0, none⟩ : Addr), 4, lowB 4 k), (a, cap, l)] = lowB 4 k ++ l := by simp [catP]
 have hbk3 : Bk w3 b tb mb cl E TS := (HH.out.on.below hb03).holds
 have hsum := bkSum_c 0 (by omega) [(some (⟨q, 0, none⟩ : Addr), 4, lowB 4 k), (a, cap, l)] w2.heap.size 0 2 w3 hbk3 hpi (by rw [hcat, List.length_append, HL.out, lowB_len]; omega) (by rw [hcat]; intro x hx; exact (List.mem_append.1 hx).elim (lowB_lt 4 k x) (HB.out.1 x)) (by rw [hcat, List.length_append, HL.out, lowB_len]; have := HN.out.2; omega) (by simp)
 rw [hcat] at hsum;rw [show (0 :: (lowB 4 k ++ l)) = leafT k l from rfl, <- HD.out] at hsum
 have HSUM := Lib.hid hsum;have HZ3 : Hid (w3.heap[w.heap.size]? = some (.cells (bA (List.replicate 32 0)) 38 (0, 0))) := (hb13.block _ (lt_blk HZ1.out)).trans HZ1.out
 have HB3 := Lib.hid hb03;clear hq1 hq2 hq3 hb2 hb3 hx3 hb13 hb03 hpi hcat hbk3 hsum HPT;go_wp2_with (first | (rw [<- hw3]; refine HSUM.out.mono ?_) | fail)
 rintro r w4 ⟨rfl, hto⟩
 have HZ4 : Hid (w4.heap[w.heap.size]? = some (.cells (bA (List.replicate 32 0)) 38 (0, 0))) := by
  obtain ⟨cl', E', h1, h2, h3⟩ := hto
  refine (h2.block _ (lt_blk HZ3.out) ?_).trans HZ3.out
  have e1 := HH.out.on.lt b (.inl rfl)
  have e2 := HH.out.on.lt mb (.inr (.inr (.inl rfl)))
  omega
 have HTO := Lib.hid hto;clear hto HSUM;go_wp2_with (first
  | (refine wpList_store_row rfl 38 (.tmp 6) (.tmp 13) rfl w.heap.size (bA d) rfl rfl 38 _ HZ4.out (by rw [info32, HGS.out]) (by rw [HGS.out]; rfl) (bA_oneS _) ?_)
  | fail)
 refine bodyPost_ret (results_cell_row rfl _ _ w.heap.size 38 (bA d) (0, 0) _ rfl (setRow_heap _ _ _ _ _ _ HZ4.out) Tryz.underlying38 rfl (by rw [info32, HGS.out])) rfl ⟨rfl, ?_⟩
 exact BkTo.around HH.out HB3.out HTO.out (Chg.setRow (S := (· = w.heap.size)) w4 w.heap.size (bA d) rfl) (fun i hi => ⟨Nat.le_of_eq hi.symm, by rw [hi]; exact lt_blk HZ3.out⟩)
def opsTrN : {o : Array Oper // some o = (Tryz.f318.body.bind (Fre.findR 1))} := ⟨_, rfl⟩
theorem fitTrN : Fre.fit .any opsTrN.1 22 = true := by kernel_rfl
theorem sizeTrN : opsTrN.1.size = 14 := by kernel_rfl
theorem tailTrN : Fre.tailFitT .any opsTrN.1 12 = true := by kernel_rfl
def VTrN (b bp bx byy B : Nat) (lv ix : Nat) (x y : List Nat) (i : Nat) (v : Value) (w : World) : Prop := match i with
 | 0 => v = .pointer (some ⟨b, 0, none⟩)
 | 1 => v = .pointer (some ⟨bp, 0, none⟩)
 | 2 => v = .int .i64 (lv : Int)
 | 3 => v = .int .u8 ((lv % 256 : Nat) : Int)
 | 4 => ∃ q, v = .slice (some ⟨q, 0, none⟩) 1 1 /\ B <= q /\ w.heap[q]? = some (.cells (bA [lv % 256]) 5 (0, 0))
 | 5 => v = .pointer (some ⟨bp, 1, none⟩)
 | 6 => v = .int .i64 (ix : Int)
 | 7 => v = .int .u64 (ix : Int)
 | 8 => ∃ q, v = .slice (some ⟨q, 0, none⟩) 4 4 /\ B <= q /\ w.heap[q]? = some (.cells (bA (lowB 4 ix)) 5 (0, 0))
 | 9 => v = .slice (some ⟨bx, 0, none⟩) 32 32
 | 10 => v = .slice (some ⟨byy, 0, none⟩) 32 32
 | 11 => ∃ q q1 q2, v = .slice (some ⟨q, 0, none⟩) 4 4 /\ B <= q /\ w.heap[q]? = some (.cells #[.slice (some ⟨q1, 0, none⟩) 1 1, .slice (some ⟨q2, 0, none⟩) 4 4, .slice (some ⟨bx, 0, none⟩) 32 32, .slice (some ⟨byy, 0, none⟩) 32 32] 22 (0, 0)) /\ w.heap[q1]? = some (.cells (bA [lv % 256]) 5 (0, 0)) /\ w.heap[q2]? = some (.cells (bA (lowB 4 ix)) 5 (0, 0))
 | _ => True
section
variable {u1 u2 u3 u4 u8 u9 u10 u11 u12 u13 u14 u15 u16 u17 u18 u19 u20 u21 : Value}
theorem kpTrN (b bp bx byy B : Nat) (lv ix : Nat) (x y : List Nat) : ∀ j v w w', j < 12 -> VTrN b bp bx byy B lv ix x y j v w -> Fre.Kept w w' -> VTrN b bp bx byy B lv ix x y j v w' := by
 intro j v w w' hj h hs
 rcases cs12 hj with rfl | rfl | rfl | rfl | rfl | rfl | rfl | rfl | rfl | rfl | rfl | rfl
 any_goals exact h
 ·change ∃ q, v = .slice (some ⟨q, 0, none⟩) 1 1 /\ B <= q /\ w.heap[q]? = some (.cells (bA [lv % 256]) 5 (0, 0)) at h
  obtain ⟨q, h1, h2, h3⟩ := h
  exact ⟨q, h1, h2, (hs.block _ (lt_blk h3)).trans h3⟩
 ·change ∃ q, v = .slice (some ⟨q, 0, none⟩) 4 4 /\ B <= q /\ w.heap[q]? = some (.cells (bA (lowB 4 ix)) 5 (0, 0)) at h
  obtain ⟨q, h1, h2, h3⟩ := h
  exact ⟨q, h1, h2, (hs.block _ (lt_blk h3)).trans h3⟩
 ·change ∃ q q1 q2, v = .slice (some ⟨q, 0, none⟩) 4 4 /\ B <= q /\ w.heap[q]? = some (.cells #[.slice (some ⟨q1, 0, none⟩) 1 1, .slice (some ⟨q2, 0, none⟩) 4 4, .slice (some ⟨bx, 0, none⟩) 32 32, .slice (some ⟨byy, 0, none⟩) 32 32] 22 (0, 0)) /\ w.heap[q1]? = some (.cells (bA [lv % 256]) 5 (0, 0)) /\ w.heap[q2]? = some (.cells (bA (lowB 4 ix)) 5 (0, 0)) at h
  obtain ⟨q, q1, q2, h1, h2, h3, h4, h5⟩ := h
  exact ⟨q, q1, q2, h1, h2, (hs.block _ (lt_blk h3)).trans h3, (hs.block _ (lt_blk h4)).trans h4, (hs.block _ (lt_blk h5)).trans h5⟩
variable {b bp bx byy B : Nat} {lv ix : Nat} {x y : List Nat} {a0 : Act} {w0 : World} (h0 : w0.heap[bp]? = some (.cells #[.int .i64 (lv : Int), .int .i64 (ix : Int)] 414 (0, 0))) (hix : ix < 4294967296) (hlv : lv < 4294967296) (h1 : w0.heap[bx]? = some (.cells (bA x) 38 (0, 0))) (hx : x.length = 32) (h2 : w0.heap[byy]? = some (.cells (bA y) 38 (0, 0))) (hy : y.length = 32) (hB : B <= w0.heap.size)
include h0 hix hlv h1 hx h2 hy hB
theorem stTrN_0 (g90 : a0.tmps.getD 0 undef = .pointer (some ⟨b, 0, none⟩)) : Fre.StepB Tryz.prog opsTrN.1 a0 w0 (VTrN b bp bx byy B lv ix x y) Fre.Kept 0 := by
 rintro E w hc hf hE hV hN hS _ ⟨⟩
 simp only [opsTrN, gA, gS, gZ]
 have b0 : E (.tmp 0) = .pointer (some ⟨b, 0, none⟩) := (hE 0 (by kernel_rfl)).trans g90
 clear g90;refine Fre.dv (v := .pointer (some ⟨b, 0, none⟩)) ?_
 go_simp
theorem stTrN_1 (g95 : a0.tmps.getD 5 undef = .pointer (some ⟨bp, 0, none⟩)) : Fre.StepB Tryz.prog opsTrN.1 a0 w0 (VTrN b bp bx byy B lv ix x y) Fre.Kept 1 := by
 rintro E w hc hf hE hV hN hS _ ⟨⟩
 simp only [opsTrN, gA, gS, gZ]
 have b5 : E (.tmp 5) = .pointer (some ⟨bp, 0, none⟩) := (hE 5 (by kernel_rfl)).trans g95
 clear g95;refine Fre.dv (v := .pointer (some ⟨bp, 0, none⟩)) ?_
 go_simp
theorem stTrN_2 : Fre.StepB Tryz.prog opsTrN.1 a0 w0 (VTrN b bp bx byy B lv ix x y) Fre.Kept 2 := by
 rintro E w hc hf hE hV hN hS _ ⟨⟩
 simp only [opsTrN, gA, gS, gZ]
 have d1 : E (.tmp 10) = .pointer (some ⟨bp, 0, none⟩) := hV 1 10 (by kernel_rfl) (by kernel_rfl)
 have c0 : w.cell? ⟨bp, 0, none⟩ = some (.int .i64 (lv : Int)) := (cells_at ((hS.block bp (lt_blk h0)).trans h0) 0).trans rfl
 refine Fre.dv (v := .int .i64 (lv : Int)) ?_
 go_simp
theorem stTrN_3 : Fre.StepB Tryz.prog opsTrN.1 a0 w0 (VTrN b bp bx byy B lv ix x y) Fre.Kept 3 := by
 rintro E w hc hf hE hV hN hS _ ⟨⟩
 simp only [opsTrN, gA, gS, gZ]
 have d2 : E (.tmp 11) = .int .i64 (lv : Int) := hV 2 11 (by kernel_rfl) (by kernel_rfl)
 have e1 : IntKind.u8.wrap (lv : Int) = ((lv % 256 : Nat) : Int) := by rw [IntKind.wrap_u8]; omega
 refine Fre.dv (v := .int .u8 ((lv % 256 : Nat) : Int)) ?_
 go_simp
theorem stTrN_4 : Fre.StepB Tryz.prog opsTrN.1 a0 w0 (VTrN b bp bx byy B lv ix x y) Fre.Kept 4 := by
 rintro E w hc hf hE hV hN hS _ ⟨⟩
 simp only [opsTrN, gA, gS, gZ]
 have d3 : E (.tmp 12) = .int .u8 ((lv % 256 : Nat) : Int) := hV 3 12 (by kernel_rfl) (by kernel_rfl)
 refine Fre.Does.value (v := .slice (some ⟨w.heap.size, 0, none⟩) 1 1) (w' := w.alloc (.cells (bA [lv % 256]) 5)) ?_ ⟨⟨_, rfl, Nat.le_trans hB hS.size, World.alloc_heap_new _ _⟩, (Below.refl _ w).alloc (Nat.le_refl _) _⟩
 show _ = Result.ok (Next.value _) (w.alloc (.cells #[.int .u8 ((lv % 256 : Nat) : Int)] 5))
 go_simp
theorem stTrN_5 (g95 : a0.tmps.getD 5 undef = .pointer (some ⟨bp, 0, none⟩)) : Fre.StepB Tryz.prog opsTrN.1 a0 w0 (VTrN b bp bx byy B lv ix x y) Fre.Kept 5 := by
 rintro E w hc hf hE hV hN hS _ ⟨⟩
 simp only [opsTrN, gA, gS, gZ]
 have b5 : E (.tmp 5) = .pointer (some ⟨bp, 0, none⟩) := (hE 5 (by kernel_rfl)).trans g95
 clear g95;refine Fre.dv (v := .pointer (some ⟨bp, 1, none⟩)) ?_
 go_simp
theorem stTrN_6 : Fre.StepB Tryz.prog opsTrN.1 a0 w0 (VTrN b bp bx byy B lv ix x y) Fre.Kept 6 := by
 rintro E w hc hf hE hV hN hS _ ⟨⟩
 simp only [opsTrN, gA, gS, gZ]
 have d5 : E (.tmp 14) = .pointer (some ⟨bp, 1, none⟩) := hV 5 14 (by kernel_rfl) (by kernel_rfl)
 have c0 : w.cell? ⟨bp, 1, none⟩ = some (.int .i64 (ix : Int)) := (cells_at ((hS.block bp (lt_blk h0)).trans h0) 1).trans rfl
 refine Fre.dv (v := .int .i64 (ix : Int)) ?_
 go_simp
theorem stTrN_7 : Fre.StepB Tryz.prog opsTrN.1 a0 w0 (VTrN b bp bx byy B lv ix x y) Fre.Kept 7 := by
 rintro E w hc hf hE hV hN hS _ ⟨⟩
 simp only [opsTrN, gA, gS, gZ]
 have d6 : E (.tmp 15) = .int .i64 (ix : Int) := hV 6 15 (by kernel_rfl) (by kernel_rfl)
 have e1 := u64_natT ix (by omega)
 refine Fre.dv (v := .int .u64 (ix : Int)) ?_
 go_simp
theorem stTrN_8 : Fre.StepB Tryz.prog opsTrN.1 a0 w0 (VTrN b bp bx byy B lv ix x y) Fre.Kept 8 := by
 rintro E w hc hf hE hV hN hS _ ⟨⟩
 simp only [opsTrN, gA, gS, gZ]
 have d7 : E (.tmp 16) = .int .u64 (ix : Int) := hV 7 16 (by kernel_rfl) (by kernel_rfl)
 refine Fre.Does.enter (f := 256) (args := #[.int .i64 4, .int .u64 (ix : Int)]) (w' := w) ?_ ((put_c 4 ix (by omega) (by omega) (by omega) 4 (ix : Int) rfl rfl w).mono ?_)
 ·go_simp
 ·rintro e w' ⟨q, rfl, hq1, hq2, hq3, hk'⟩
  exact ⟨_, rfl, ⟨q, rfl, Nat.le_trans hB (Nat.le_trans hS.size hq1), hq3⟩, hk'⟩
theorem stTrN_9 (g96 : a0.tmps.getD 6 undef = .pointer (some ⟨bx, 0, none⟩)) : Fre.StepB Tryz.prog opsTrN.1 a0 w0 (VTrN b bp bx byy B lv ix x y) Fre.Kept 9 := by
 rintro E w hc hf hE hV hN hS _ ⟨⟩
 simp only [opsTrN, gA, gS, gZ]
 have b6 : E (.tmp 6) = .pointer (some ⟨bx, 0, none⟩) := (hE 6 (by kernel_rfl)).trans g96
 clear g96;refine Fre.dv (v := .slice (some ⟨bx, 0, none⟩) 32 32) ?_
 go_simp
theorem stTrN_10 (g97 : a0.tmps.getD 7 undef = .pointer (some ⟨byy, 0, none⟩)) : Fre.StepB Tryz.prog opsTrN.1 a0 w0 (VTrN b bp bx byy B lv ix x y) Fre.Kept 10 := by
 rintro E w hc hf hE hV hN hS _ ⟨⟩
 simp only [opsTrN, gA, gS, gZ]
 have b7 : E (.tmp 7) = .pointer (some ⟨byy, 0, none⟩) := (hE 7 (by kernel_rfl)).trans g97
 clear g97;refine Fre.dv (v := .slice (some ⟨byy, 0, none⟩) 32 32) ?_
 go_simp
theorem stTrN_11 : Fre.StepB Tryz.prog opsTrN.1 a0 w0 (VTrN b bp bx byy B lv ix x y) Fre.Kept 11 := by
 rintro E w hc hf hE hV hN hS _ ⟨⟩
 simp only [opsTrN, gA, gS, gZ]
 have d4 := hV 4 13 (by kernel_rfl) (by kernel_rfl)
 replace d4 : (fun v : Value => ∃ q, v = .slice (some ⟨q, 0, none⟩) 1 1 /\ B <= q /\ w.heap[q]? = some (.cells (bA [lv % 256]) 5 (0, 0))) (E (.tmp 13)) := d4
 simp only at d4
 have d8 := hV 8 17 (by kernel_rfl) (by kernel_rfl)
 replace d8 : (fun v : Value => ∃ q, v = .slice (some ⟨q, 0, none⟩) 4 4 /\ B <= q /\ w.heap[q]? = some (.cells (bA (lowB 4 ix)) 5 (0, 0))) (E (.tmp 17)) := d8
 simp only at d8
 have d9 : E (.tmp 18) = .slice (some ⟨bx, 0, none⟩) 32 32 := hV 9 18 (by kernel_rfl) (by kernel_rfl)
 have d10 : E (.tmp 19) = .slice (some ⟨byy, 0, none⟩) 32 32 := hV 10 19 (by kernel_rfl) (by kernel_rfl)
 obtain ⟨q1, d4, z4, f4⟩ := d4
 obtain ⟨q2, d8, z8, f8⟩ := d8
 refine Fre.Does.value (v := .slice (some ⟨w.heap.size, 0, none⟩) 4 4) (w' := w.alloc (.cells #[.slice (some ⟨q1, 0, none⟩) 1 1, .slice (some ⟨q2, 0, none⟩) 4 4, .slice (some ⟨bx, 0, none⟩) 32 32, .slice (some ⟨byy, 0, none⟩) 32 32] 22)) ?_ ⟨⟨_, q1, q2, rfl, Nat.le_trans hB hS.size, World.alloc_heap_new _ _, (heap_old' _ _ _ (lt_blk f4)).trans f4, (heap_old' _ _ _ (lt_blk f8)).trans f8⟩, (Below.refl _ w).alloc (Nat.le_refl _) _⟩
 go_simp
variable (b bp bx byy B lv ix x y w0)
theorem regionTrN {QQ : Exit -> Act -> World -> Prop} (hQ : ∀ (vs : Nat -> Value) w, (∀ j, j < 12 -> VTrN b bp bx byy B lv ix x y j (vs j) w) -> Fre.Kept w0 w -> wpList Tryz.prog opsTrN.1 QQ (opsTrN.1.toList.drop 12) ⟨#[.pointer (some ⟨b, 0, none⟩), u1, u2, u3, u4, .pointer (some ⟨bp, 0, none⟩), .pointer (some ⟨bx, 0, none⟩), .pointer (some ⟨byy, 0, none⟩), u8, vs 0, vs 1, vs 2, vs 3, vs 4, vs 5, vs 6, vs 7, vs 8, vs 9, vs 10, vs 11, u21], []⟩ w) : (Code.region 1 opsTrN.1 true).wp Tryz.prog QQ ⟨#[.pointer (some ⟨b, 0, none⟩), u1, u2, u3, u4, .pointer (some ⟨bp, 0, none⟩), .pointer (some ⟨bx, 0, none⟩), .pointer (some ⟨byy, 0, none⟩), u8, u9, u10, u11, u12, u13, u14, u15, u16, u17, u18, u19, u20, u21], []⟩ w0 := by
 refine Fre.region_tailT 22 12 (by kernel_rfl) fitTrN rfl tailTrN (by rw [sizeTrN]; omega) (VTrN b bp bx byy B lv ix x y) (kpTrN b bp bx byy B lv ix x y) (fun i hi => ?_) (fun vs w h1 h2 => ?_)
 case refine_2 =>
  have h9 := hQ vs w h1 h2
  exact Fre.fe (p := fun t => wpList Tryz.prog opsTrN.1 QQ (opsTrN.1.toList.drop 12) ⟨t, []⟩ w) h9 (by kernel_rfl)
 rcases cs12 hi with rfl | rfl | rfl | rfl | rfl | rfl | rfl | rfl | rfl | rfl | rfl | rfl
 ·exact stTrN_0 h0 hix hlv h1 hx h2 hy hB rfl
 ·exact stTrN_1 h0 hix hlv h1 hx h2 hy hB rfl
 ·exact stTrN_2 h0 hix hlv h1 hx h2 hy hB
 ·exact stTrN_3 h0 hix hlv h1 hx h2 hy hB
 ·exact stTrN_4 h0 hix hlv h1 hx h2 hy hB
 ·exact stTrN_5 h0 hix hlv h1 hx h2 hy hB rfl
 ·exact stTrN_6 h0 hix hlv h1 hx h2 hy hB
 ·exact stTrN_7 h0 hix hlv h1 hx h2 hy hB
 ·exact stTrN_8 h0 hix hlv h1 hx h2 hy hB
 ·exact stTrN_9 h0 hix hlv h1 hx h2 hy hB rfl
 ·exact stTrN_10 h0 hix hlv h1 hx h2 hy hB rfl
 ·exact stTrN_11 h0 hix hlv h1 hx h2 hy hB
end
def opsTrR : {o : Array Oper // some o = (Tryz.f265.body.bind (Fre.findR 1))} := ⟨_, rfl⟩
theorem fitTrR : Fre.fit .any opsTrR.1 14 = true := by kernel_rfl
theorem sizeTrR : opsTrR.1.size = 8 := by kernel_rfl
theorem tailTrR : Fre.tailFitT .any opsTrR.1 6 = true := by kernel_rfl
def VTrR (b bx B : Nat) (ix : Nat) (x : List Nat) (i : Nat) (v : Value) (w : World) : Prop := match i with
 | 0 => v = .pointer (some ⟨b, 0, none⟩)
 | 1 => v = .int .i64 (ix : Int)
 | 2 => v = .int .u64 (ix : Int)
 | 3 => ∃ q, v = .slice (some ⟨q, 0, none⟩) 4 4 /\ B <= q /\ w.heap[q]? = some (.cells (bA (lowB 4 ix)) 5 (0, 0))
 | 4 => v = .slice (some ⟨bx, 0, none⟩) 32 32
 | 5 => ∃ q q2, v = .slice (some ⟨q, 0, none⟩) 2 2 /\ B <= q /\ w.heap[q]? = some (.cells #[.slice (some ⟨q2, 0, none⟩) 4 4, .slice (some ⟨bx, 0, none⟩) 32 32] 22 (0, 0)) /\ w.heap[q2]? = some (.cells (bA (lowB 4 ix)) 5 (0, 0))
 | _ => True
section
variable {u2 u3 u4 u6 u7 u8 u9 u10 u11 u12 u13 : Value}
theorem kpTrR (b bx B : Nat) (ix : Nat) (x : List Nat) : ∀ j v w w', j < 6 -> VTrR b bx B ix x j v w -> Fre.Kept w w' -> VTrR b bx B ix x j v w' := by
 intro j v w w' hj h hs
 rcases cs6 hj with rfl | rfl | rfl | rfl | rfl | rfl
 any_goals exact h
 ·change ∃ q, v = .slice (some ⟨q, 0, none⟩) 4 4 /\ B <= q /\ w.heap[q]? = some (.cells (bA (lowB 4 ix)) 5 (0, 0)) at h
  obtain ⟨q, h1, h2, h3⟩ := h
  exact ⟨q, h1, h2, (hs.block _ (lt_blk h3)).trans h3⟩
 ·change ∃ q q2, v = .slice (some ⟨q, 0, none⟩) 2 2 /\ B <= q /\ w.heap[q]? = some (.cells #[.slice (some ⟨q2, 0, none⟩) 4 4, .slice (some ⟨bx, 0, none⟩) 32 32] 22 (0, 0)) /\ w.heap[q2]? = some (.cells (bA (lowB 4 ix)) 5 (0, 0)) at h
  obtain ⟨q, q2, h1, h2, h3, h5⟩ := h
  exact ⟨q, q2, h1, h2, (hs.block _ (lt_blk h3)).trans h3, (hs.block _ (lt_blk h5)).trans h5⟩
variable {b bx B : Nat} {ix : Nat} {x : List Nat} {a0 : Act} {w0 : World} (hix : ix < 4294967296) (h1 : w0.heap[bx]? = some (.cells (bA x) 38 (0, 0))) (hx : x.length = 32) (hB : B <= w0.heap.size)
include hix h1 hx hB
theorem stTrR_0 (g90 : a0.tmps.getD 0 undef = .pointer (some ⟨b, 0, none⟩)) : Fre.StepB Tryz.prog opsTrR.1 a0 w0 (VTrR b bx B ix x) Fre.Kept 0 := by
 rintro E w hc hf hE hV hN hS _ ⟨⟩
 simp only [opsTrR, gA, gS, gZ]
 have b0 : E (.tmp 0) = .pointer (some ⟨b, 0, none⟩) := (hE 0 (by kernel_rfl)).trans g90
 clear g90;refine Fre.dv (v := .pointer (some ⟨b, 0, none⟩)) ?_
 go_simp
theorem stTrR_1 (g91 : a0.tmps.getD 1 undef = .int .i64 (ix : Int)) : Fre.StepB Tryz.prog opsTrR.1 a0 w0 (VTrR b bx B ix x) Fre.Kept 1 := by
 rintro E w hc hf hE hV hN hS _ ⟨⟩
 simp only [opsTrR, gA, gS, gZ]
 have b1 : E (.tmp 1) = .int .i64 (ix : Int) := (hE 1 (by kernel_rfl)).trans g91
 clear g91;refine Fre.dv (v := .int .i64 (ix : Int)) ?_
 go_simp
theorem stTrR_2 : Fre.StepB Tryz.prog opsTrR.1 a0 w0 (VTrR b bx B ix x) Fre.Kept 2 := by
 rintro E w hc hf hE hV hN hS _ ⟨⟩
 simp only [opsTrR, gA, gS, gZ]
 have d1 : E (.tmp 8) = .int .i64 (ix : Int) := hV 1 8 (by kernel_rfl) (by kernel_rfl)
 have e1 := u64_natT ix (by omega)
 refine Fre.dv (v := .int .u64 (ix : Int)) ?_
 go_simp
theorem stTrR_3 : Fre.StepB Tryz.prog opsTrR.1 a0 w0 (VTrR b bx B ix x) Fre.Kept 3 := by
 rintro E w hc hf hE hV hN hS _ ⟨⟩
 simp only [opsTrR, gA, gS, gZ]
 have d2 : E (.tmp 9) = .int .u64 (ix : Int) := hV 2 9 (by kernel_rfl) (by kernel_rfl)
 refine Fre.Does.enter (f := 256) (args := #[.int .i64 4, .int .u64 (ix : Int)]) (w' := w) ?_ ((put_c 4 ix (by omega) (by omega) (by omega) 4 (ix : Int) rfl rfl w).mono ?_)
 ·go_simp
 ·rintro e w' ⟨q, rfl, hq1, hq2, hq3, hk'⟩
  exact ⟨_, rfl, ⟨q, rfl, Nat.le_trans hB (Nat.le_trans hS.size hq1), hq3⟩, hk'⟩
theorem stTrR_4 (g95 : a0.tmps.getD 5 undef = .pointer (some ⟨bx, 0, none⟩)) : Fre.StepB Tryz.prog opsTrR.1 a0 w0 (VTrR b bx B ix x) Fre.Kept 4 := by
 rintro E w hc hf hE hV hN hS _ ⟨⟩
 simp only [opsTrR, gA, gS, gZ]
 have b5 : E (.tmp 5) = .pointer (some ⟨bx, 0, none⟩) := (hE 5 (by kernel_rfl)).trans g95
 clear g95;refine Fre.dv (v := .slice (some ⟨bx, 0, none⟩) 32 32) ?_
 go_simp
theorem stTrR_5 : Fre.StepB Tryz.prog opsTrR.1 a0 w0 (VTrR b bx B ix x) Fre.Kept 5 := by
 rintro E w hc hf hE hV hN hS _ ⟨⟩
 simp only [opsTrR, gA, gS, gZ]
 have d3 := hV 3 10 (by kernel_rfl) (by kernel_rfl)
 replace d3 : (fun v : Value => ∃ q, v = .slice (some ⟨q, 0, none⟩) 4 4 /\ B <= q /\ w.heap[q]? = some (.cells (bA (lowB 4 ix)) 5 (0, 0))) (E (.tmp 10)) := d3
 simp only at d3
 have d4 : E (.tmp 11) = .slice (some ⟨bx, 0, none⟩) 32 32 := hV 4 11 (by kernel_rfl) (by kernel_rfl)
 obtain ⟨q2, d3, z8, f8⟩ := d3
 refine Fre.Does.value (v := .slice (some ⟨w.heap.size, 0, none⟩) 2 2) (w' := w.alloc (.cells #[.slice (some ⟨q2, 0, none⟩) 4 4, .slice (some ⟨bx, 0, none⟩) 32 32] 22)) ?_ ⟨⟨_, q2, rfl, Nat.le_trans hB hS.size, World.alloc_heap_new _ _, (heap_old' _ _ _ (lt_blk f8)).trans f8⟩, (Below.refl _ w).alloc (Nat.le_refl _) _⟩
 go_simp
variable (b bx B ix x w0)
theorem regionTrR {QQ : Exit -> Act -> World -> Prop} (hQ : ∀ (vs : Nat -> Value) w, (∀ j, j < 6 -> VTrR b bx B ix x j (vs j) w) -> Fre.Kept w0 w -> wpList Tryz.prog opsTrR.1 QQ (opsTrR.1.toList.drop 6) ⟨#[.pointer (some ⟨b, 0, none⟩), .int .i64 (ix : Int), u2, u3, u4, .pointer (some ⟨bx, 0, none⟩), u6, vs 0, vs 1, vs 2, vs 3, vs 4, vs 5, u13], []⟩ w) : (Code.region 1 opsTrR.1 true).wp Tryz.prog QQ ⟨#[.pointer (some ⟨b, 0, none⟩), .int .i64 (ix : Int), u2, u3, u4, .pointer (some ⟨bx, 0, none⟩), u6, u7, u8, u9, u10, u11, u12, u13], []⟩ w0 := by
 refine Fre.region_tailT 14 6 (by kernel_rfl) fitTrR rfl tailTrR (by rw [sizeTrR]; omega) (VTrR b bx B ix x) (kpTrR b bx B ix x) (fun i hi => ?_) (fun vs w h1 h2 => ?_)
 case refine_2 =>
  have h9 := hQ vs w h1 h2
  exact Fre.fe (p := fun t => wpList Tryz.prog opsTrR.1 QQ (opsTrR.1.toList.drop 6) ⟨t, []⟩ w) h9 (by kernel_rfl)
 rcases cs6 hi with rfl | rfl | rfl | rfl | rfl | rfl
 ·exact stTrR_0 hix h1 hx hB rfl
 ·exact stTrR_1 hix h1 hx hB rfl
 ·exact stTrR_2 hix h1 hx hB
 ·exact stTrR_3 hix h1 hx hB
 ·exact stTrR_4 hix h1 hx hB rfl
 ·exact stTrR_5 hix h1 hx hB
end
theorem all_app {l m : List Nat} (h1 : ∀ x ∈ l, x < 256) (h2 : ∀ x ∈ m, x < 256) : ∀ x ∈ l ++ m, x < 256 := fun x hx => (List.mem_append.1 hx).elim (h1 x) (h2 x)
theorem one_lt (lv : Nat) : ∀ x ∈ [lv % 256], x < 256 := fun x hx => by simp at hx; omega
theorem below_al {w w1 : World} (h : Below w.heap.size w w1) (o : Obj) : Below w.heap.size w (w1.alloc o) := h.alloc h.size o
theorem digAt {w : World} {q : Nat} {x : List Nat} (h : w.heap[q]? = some (.cells (bA x) 38 (0, 0))) (hx : goodD x) : BytesAt w (some ⟨q, 0, none⟩) 32 x /\ 0 < x.length := by
 refine ⟨⟨hx.2, fun _ => ⟨q, 0, rfl, by rw [hx.1]; exact Nat.le_refl _, lt_blk h, fun j hj => ?_⟩⟩, by rw [hx.1]; decide⟩
 rw [Nat.zero_add, cells_at h j, bA_get x j hj]
theorem treeRoot_c {b tb mb : Nat} {cl : Option Nat} {E : List BEnt} {TS : List (List Nat)} (k : Nat) (hk : k < 4294967296) (x : List Nat) (hx : goodD x) (w : World) (h : Bk w b tb mb cl E TS) :
  Calls Tryz.prog 265 #[.pointer (some ⟨b, 0, none⟩), .int .i64 (k : Int), .agg (bA x)] w fun r w' => r = .returned (.agg (bA (sumN (rootT k x)))) /\ BkTo w w' b tb mb E (TS ++ [rootT k x]) := by
 have HH := Lib.hid h;have HX := Lib.hid hx;have HGS : Hid ((bA (sumN (rootT k x))).size = 32) := by rw [bA_size]; exact sum_len _
 obtain ⟨d, hd⟩ : ∃ d, d = sumN (rootT k x) := ⟨_, rfl⟩
 have HD := Lib.hid hd;rw [<- hd] at HGS ⊢
 have hxs : (bA x).size = 32 := by rw [bA_size]; exact hx.1
 clear h hx hd
 go_enter Tryz.func265, Tryz.ntmps265
 go_upto_region 1 with fail
 generalize hW1 : World.alloc (World.alloc w _) _ = w1
 have hb1 : Below w.heap.size w w1 := by rw [<- hW1]; exact below_al (below_al (Below.refl _ w) _) _
 have hx1 : w1.heap[w.heap.size]? = some (.cells (bA x) 38 (0, 0)) := by rw [<- hW1]; exact (heap_old' _ _ _ (by rw [World.size_alloc]; omega)).trans (World.alloc_heap_new _ _)
 have hz1 : w1.heap[w.heap.size + 1]? = some (.cells (bA (List.replicate 32 0)) 38 (0, 0)) := by rw [<- hW1, <- World.size_alloc w (.cells (bA x) 38)]; exact World.alloc_heap_new _ _
 clear hW1;have HB1 := Lib.hid hb1;have HX1 := Lib.hid hx1;have HZ1 := Lib.hid hz1;clear hb1 hz1 hx1;refine regionTrR b w.heap.size w1.heap.size k x w1 hk HX1.out HX.out.1 (Nat.le_refl _) ?_
 intro vs w3 hv hk3;obtain ⟨q20, q2, v20, z20, f20, f17⟩ := hv 5 (by omega)
 have v0 : vs 0 = .pointer (some ⟨b, 0, none⟩) := hv 0 (by omega)
 rw [v20, v0]
 have hb03 : Below w.heap.size w w3 := HB1.out.trans (hk3.mono HB1.out.size)
 have hpi : PartsIn w3 q20 0 [(some (⟨q2, 0, none⟩ : Addr), 4, lowB 4 k), (some (⟨w.heap.size, 0, none⟩ : Addr), 32, x)] := by
  refine parts_of f20 (by simp [lowB_len, HX.out.1]) ?_
  refine List.forall_mem_cons.2 ⟨(by have e := bytesAt_block (lowB_lt 4 k) f17; rw [lowB_len] at e; exact ⟨e, by rw [lowB_len]; decide⟩), List.forall_mem_cons.2 ⟨(digAt ((hk3.block _ (lt_blk HX1.out)).trans HX1.out) HX.out), List.forall_mem_nil _⟩⟩
 have hcat : catP [(some (⟨q2, 0, none⟩ : Addr), 4, lowB 4 k), (some (⟨w.heap.size, 0, none⟩ : Addr), 32, x)] = lowB 4 k ++ (x) := by simp [catP]
 have hbk3 : Bk w3 b tb mb cl E TS := (HH.out.on.below hb03).holds
 have hsum := bkSum_c 2 (by omega) [(some (⟨q2, 0, none⟩ : Addr), 4, lowB 4 k), (some (⟨w.heap.size, 0, none⟩ : Addr), 32, x)] q20 0 2 w3 hbk3 hpi (by rw [hcat]; simp only [List.length_append, lowB_len, List.length_cons, List.length_nil]; omega) (by rw [hcat]; exact all_app (lowB_lt 4 k) HX.out.2) (by rw [hcat]; simp [lowB_len, HX.out.1]) (by simp)
 rw [hcat, show (2 :: (lowB 4 k ++ (x))) = rootT k x from rfl, <- HD.out] at hsum
 have HSUM := Lib.hid hsum;have HZ3 : Hid (w3.heap[w.heap.size + 1]? = some (.cells (bA (List.replicate 32 0)) 38 (0, 0))) := (hk3.block _ (lt_blk HZ1.out)).trans HZ1.out
 have HB3 := Lib.hid hb03;simp only [opsTrR, List.drop_succ_cons, List.drop_zero]
 clear hk3 hv f20 f17 hb03 hpi hcat hbk3 hsum z20;go_wp2_with fail
 refine HSUM.out.mono ?_
 rintro r w4 ⟨rfl, hto⟩
 have HZ4 : Hid (w4.heap[w.heap.size + 1]? = some (.cells (bA (List.replicate 32 0)) 38 (0, 0))) := by
  obtain ⟨cl', E', h1, h2, h3⟩ := hto
  refine (h2.block _ (lt_blk HZ3.out) ?_).trans HZ3.out
  have e1 := HH.out.on.lt b (.inl rfl)
  have e2 := HH.out.on.lt mb (.inr (.inr (.inl rfl)))
  omega
 have HTO := Lib.hid hto;clear hto HSUM;go_wp2_with (first
  | (refine wpList_store_row rfl 38 (.tmp 6) (.tmp 13) rfl (w.heap.size + 1) (bA d) rfl rfl 38 _ HZ4.out (by rw [info32, HGS.out]) (by rw [HGS.out]; rfl) (bA_oneS _) ?_)
  | fail)
 refine bodyPost_ret (results_cell_row rfl _ _ (w.heap.size + 1) 38 (bA d) (0, 0) _ rfl (setRow_heap _ _ _ _ _ _ HZ4.out) Tryz.underlying38 rfl (by rw [info32, HGS.out])) rfl ⟨rfl, ?_⟩
 exact BkTo.around HH.out HB3.out HTO.out (Chg.setRow (S := (· = w.heap.size + 1)) w4 (w.heap.size + 1) (bA d) rfl) (fun i hi => ⟨by rw [hi]; omega, by rw [hi]; exact lt_blk HZ3.out⟩)
theorem treeNode_c {b tb mb : Nat} {cl : Option Nat} {E : List BEnt} {TS : List (List Nat)} (lv k : Nat) (hlv : lv < 4294967296) (hk : k < 4294967296) (x y : List Nat) (hx : goodD x) (hy : goodD y) (w : World) (h : Bk w b tb mb cl E TS) :
  Calls Tryz.prog 318 #[.pointer (some ⟨b, 0, none⟩), .agg #[.int .i64 (lv : Int), .int .i64 (k : Int)], .agg (bA x), .agg (bA y)] w fun r w' => r = .returned (.agg (bA (sumN (nodeT lv k x y)))) /\ BkTo w w' b tb mb E (TS ++ [nodeT lv k x y]) := by
 have HH := Lib.hid h;have HX := Lib.hid hx;have HY := Lib.hid hy;have HGS : Hid ((bA (sumN (nodeT lv k x y))).size = 32) := by rw [bA_size]; exact sum_len _
 obtain ⟨d, hd⟩ : ∃ d, d = sumN (nodeT lv k x y) := ⟨_, rfl⟩
 have HD := Lib.hid hd;rw [<- hd] at HGS ⊢
 have hxs : (bA x).size = 32 := by rw [bA_size]; exact hx.1
 have hys : (bA y).size = 32 := by rw [bA_size]; exact hy.1
 clear h hx hy hd
 go_enter Tryz.func318, Tryz.ntmps318
 go_upto_region 1 with fail
 generalize hW1 : World.alloc (World.alloc (World.alloc (World.alloc w _) _) _) _ = w1
 have hb1 : Below w.heap.size w w1 := by rw [<- hW1]; exact below_al (below_al (below_al (below_al (Below.refl _ w) _) _) _) _
 have hp1 : w1.heap[w.heap.size]? = some (.cells #[.int .i64 (lv : Int), .int .i64 (k : Int)] 414 (0, 0)) := by rw [<- hW1]; exact (heap_old' _ _ _ (by simp only [World.size_alloc]; omega)).trans ((heap_old' _ _ _ (by simp only [World.size_alloc]; omega)).trans ((heap_old' _ _ _ (by simp only [World.size_alloc]; omega)).trans (World.alloc_heap_new _ _)))
 have hx1 : w1.heap[w.heap.size + 1]? = some (.cells (bA x) 38 (0, 0)) := by rw [<- hW1]; exact (heap_old' _ _ _ (by simp only [World.size_alloc]; omega)).trans ((heap_old' _ _ _ (by simp only [World.size_alloc]; omega)).trans (by rw [<- World.size_alloc w _]; exact World.alloc_heap_new _ _))
 have hy1 : w1.heap[w.heap.size + 2]? = some (.cells (bA y) 38 (0, 0)) := by rw [<- hW1]; exact (heap_old' _ _ _ (by simp only [World.size_alloc]; omega)).trans (by rw [show w.heap.size + 2 = w.heap.size + 1 + 1 from rfl, <- World.size_alloc w _, <- World.size_alloc (w.alloc _) _]; exact World.alloc_heap_new _ _)
 have hz1 : w1.heap[w.heap.size + 3]? = some (.cells (bA (List.replicate 32 0)) 38 (0, 0)) := by rw [<- hW1, show w.heap.size + 3 = w.heap.size + 1 + 1 + 1 from rfl, <- World.size_alloc w _, <- World.size_alloc (w.alloc _) _, <- World.size_alloc ((w.alloc _).alloc _) _]; exact World.alloc_heap_new _ _
 clear hW1;have HB1 := Lib.hid hb1;have HP1 := Lib.hid hp1;have HX1 := Lib.hid hx1;have HY1 := Lib.hid hy1;have HZ1 := Lib.hid hz1;clear hb1 hz1 hx1 hp1 hy1;refine regionTrN b w.heap.size (w.heap.size + 1) (w.heap.size + 2) w1.heap.size lv k x y w1 HP1.out hk hlv HX1.out HX.out.1 HY1.out HY.out.1 (Nat.le_refl _) ?_
 intro vs w3 hv hk3;obtain ⟨q20, q1, q2, v20, z20, f20, f13, f17⟩ := hv 11 (by omega)
 have v0 : vs 0 = .pointer (some ⟨b, 0, none⟩) := hv 0 (by omega)
 rw [v20, v0]
 have hb03 : Below w.heap.size w w3 := HB1.out.trans (hk3.mono HB1.out.size)
 have hpi : PartsIn w3 q20 0 [(some (⟨q1, 0, none⟩ : Addr), 1, [lv % 256]), (some (⟨q2, 0, none⟩ : Addr), 4, lowB 4 k), (some (⟨w.heap.size + 1, 0, none⟩ : Addr), 32, x), (some (⟨w.heap.size + 2, 0, none⟩ : Addr), 32, y)] := by
  refine parts_of f20 (by simp [lowB_len, HX.out.1, HY.out.1]) ?_
  refine List.forall_mem_cons.2 ⟨⟨bytesAt_block (one_lt lv) f13, Nat.zero_lt_one⟩, List.forall_mem_cons.2 ⟨(by have e := bytesAt_block (lowB_lt 4 k) f17; rw [lowB_len] at e; exact ⟨e, by rw [lowB_len]; decide⟩), List.forall_mem_cons.2 ⟨(digAt ((hk3.block _ (lt_blk HX1.out)).trans HX1.out) HX.out), List.forall_mem_cons.2 ⟨(digAt ((hk3.block _ (lt_blk HY1.out)).trans HY1.out) HY.out), List.forall_mem_nil _⟩⟩⟩⟩
 have hcat : catP [(some (⟨q1, 0, none⟩ : Addr), 1, [lv % 256]), (some (⟨q2, 0, none⟩ : Addr), 4, lowB 4 k), (some (⟨w.heap.size + 1, 0, none⟩ : Addr), 32, x), (some (⟨w.heap.size + 2, 0, none⟩ : Addr), 32, y)] = [lv % 256] ++ (lowB 4 k ++ (x ++ (y))) := by simp [catP]
 have hbk3 : Bk w3 b tb mb cl E TS := (HH.out.on.below hb03).holds
 have hsum := bkSum_c 1 (by omega) [(some (⟨q1, 0, none⟩ : Addr), 1, [lv % 256]), (some (⟨q2, 0, none⟩ : Addr), 4, lowB 4 k), (some (⟨w.heap.size + 1, 0, none⟩ : Addr), 32, x), (some (⟨w.heap.size + 2, 0, none⟩ : Addr), 32, y)] q20 0 4 w3 hbk3 hpi (by rw [hcat]; simp only [List.length_append, lowB_len, List.length_cons, List.length_nil]; omega) (by rw [hcat]; exact all_app (one_lt lv) (all_app (lowB_lt 4 k) (all_app HX.out.2 HY.out.2))) (by rw [hcat]; simp [lowB_len, HX.out.1, HY.out.1]) (by simp)
 rw [hcat, show (1 :: ([lv % 256] ++ (lowB 4 k ++ (x ++ (y))))) = nodeT lv k x y from rfl, <- HD.out] at hsum
 have HSUM := Lib.hid hsum;have HZ3 : Hid (w3.heap[w.heap.size + 3]? = some (.cells (bA (List.replicate 32 0)) 38 (0, 0))) := (hk3.block _ (lt_blk HZ1.out)).trans HZ1.out
 have HB3 := Lib.hid hb03;simp only [opsTrN, List.drop_succ_cons, List.drop_zero]
 clear hk3 hv f20 f17 f13 hb03 hpi hcat hbk3 hsum z20;go_wp2_with fail
 refine HSUM.out.mono ?_
 rintro r w4 ⟨rfl, hto⟩
 have HZ4 : Hid (w4.heap[w.heap.size + 3]? = some (.cells (bA (List.replicate 32 0)) 38 (0, 0))) := by
  obtain ⟨cl', E', h1, h2, h3⟩ := hto
  refine (h2.block _ (lt_blk HZ3.out) ?_).trans HZ3.out
  have e1 := HH.out.on.lt b (.inl rfl)
  have e2 := HH.out.on.lt mb (.inr (.inr (.inl rfl)))
  omega
 have HTO := Lib.hid hto;clear hto HSUM;go_wp2_with (first
  | (refine wpList_store_row rfl 38 (.tmp 8) (.tmp 21) rfl (w.heap.size + 3) (bA d) rfl rfl 38 _ HZ4.out (by rw [info32, HGS.out]) (by rw [HGS.out]; rfl) (bA_oneS _) ?_)
  | fail)
 refine bodyPost_ret (results_cell_row rfl _ _ (w.heap.size + 3) 38 (bA d) (0, 0) _ rfl (setRow_heap _ _ _ _ _ _ HZ4.out) Tryz.underlying38 rfl (by rw [info32, HGS.out])) rfl ⟨rfl, ?_⟩
 exact BkTo.around HH.out HB3.out HTO.out (Chg.setRow (S := (· = w.heap.size + 3)) w4 (w.heap.size + 3) (bA d) rfl) (fun i hi => ⟨by rw [hi]; omega, by rw [hi]; exact lt_blk HZ3.out⟩)
theorem modify_eq_set' {α : Type} (f : α -> α) : ∀ (l : List α) (j : Nat) (a : α), l[j]? = some a -> l.modify j f = l.set j (f a)
 | [], j, a, h => by simp at h
 | b :: r, 0, a, h => by simp at h; subst h; rfl
 | b :: r, j + 1, a, h => by simp at h; simp [modify_eq_set' f r j a h]
structure MapV {α : Type} (kv : α -> Value) (good : α -> Prop) (w : World) (m : Nat) (M : List (α × Value)) : Prop where
 ex : ∃ es clock, w.heap[m]? = some (.map es clock) /\ es.size = M.length /\ clock = es.size /\ ∀ (i : Nat) e x, es[i]? = some e -> M[i]? = some x -> e.key = kv x.1 /\ e.val = x.2 /\ e.born = i
 good : ∀ x ∈ M, good x.1
 dist : M.Pairwise fun x y => x.1 ≠ y.1
section
variable {P : Program} {kt et mt : TypeId} {α : Type} {kv : α -> Value} {good : α -> Prop}
theorem MapV.on {w : World} {m : Nat} {M : List (α × Value)} (h : MapV kv good w m M) : On (fun k => k = m) (fun w => MapV kv good w m M) w := by
 obtain ⟨es, clock, h1, h2⟩ := h.ex
 refine ⟨h, ?_, fun w' he => ⟨⟨es, clock, (he m rfl).trans h1, h2⟩, h.good, h.dist⟩⟩
 rintro k rfl
 exact (Array.getElem?_eq_some_iff.1 h1).1
theorem MapV.made (w : World) : MapV kv good (w.alloc (.map #[] 0)) w.heap.size [] :=
 ⟨⟨#[], 0, World.alloc_heap_new w _, rfl, rfl, fun i e x h => by simp at h⟩, fun x hx => (by cases hx), List.Pairwise.nil⟩
theorem MapV.keys {w : World} {m : Nat} {M : List (α × Value)} (R : KeyTy P kt et mt kv good) (h : MapV kv good w m M) {es : Array MapEntry} {clock : Nat} (hb : w.heap[m]? = some (.map es clock)) :
  (∀ e ∈ es.toList, ∃ l, Go.keyOf P kt e.key = some l) /\ ∀ (j : Nat) e, es.toList[j]? = some e -> ∃ x, M[j]? = some x /\ e.key = kv x.1 /\ e.val = x.2 /\ e.born = j := by
 obtain ⟨es', clock', h1, h2, _, h3⟩ := h.ex
 rw [hb] at h1
 cases h1
 have hgo : ∀ (j : Nat) e, es.toList[j]? = some e -> ∃ x, M[j]? = some x /\ e.key = kv x.1 /\ e.val = x.2 /\ e.born = j := fun j e he => by
  rw [Array.getElem?_toList] at he
  have hj := (Array.getElem?_eq_some_iff.1 he).1
  have hm : j < M.length := by omega
  obtain ⟨a1, a2, a3⟩ := h3 j e M[j] he (List.getElem?_eq_getElem hm)
  exact ⟨M[j], List.getElem?_eq_getElem hm, a1, a2, a3⟩
 refine ⟨fun e he => ?_, hgo⟩
 obtain ⟨j, hj, hje⟩ := List.getElem_of_mem he
 obtain ⟨x, hx, hk, _⟩ := hgo j e (by rw [List.getElem?_eq_getElem hj, hje])
 rw [hk];exact R.key x.1 (h.good x (List.mem_of_getElem? hx))
theorem MapV.look {w : World} {m : Nat} {M : List (α × Value)} (R : KeyTy P kt et mt kv good) (h : MapV kv good w m M) (k : α) (hk : good k) :
  ((Instr.lookup mt (.map (some m)) (kv k) false).run P w = .ok (.slice none 0 0) w /\ ∀ x ∈ M, x.1 ≠ k) \/
  ∃ x ∈ M, x.1 = k /\ (Instr.lookup mt (.map (some m)) (kv k) false).run P w = .ok x.2 w := by
 obtain ⟨es, clock, hb, hlen, hcl, hF⟩ := h.ex
 obtain ⟨l, hl⟩ := R.key k hk
 obtain ⟨hall, hgo⟩ := h.keys R hb
 rcases R.keyed.find w hl es.toList hall with ⟨f1, f2⟩ | ⟨j, e0, f1, f2, f3⟩
 ·refine .inl ⟨by simp [Instr.lookup, run_underlying R.und, MapKept.run_getObj_map hb, R.keyed.check w _ hl, f1, R.zero, Result.andThen], fun x hx he => ?_⟩
  obtain ⟨i, hi, hie⟩ := List.getElem_of_mem hx
  have he' : es[i]? = some es[i] := Array.getElem?_eq_getElem (by omega)
  have hx2 := hF i _ x he' (by rw [List.getElem?_eq_getElem hi, hie])
  exact f2 es[i] (by simp) (by rw [hx2.1, he])
 ·obtain ⟨x, hx, hkx, hv, _⟩ := hgo j e0 f2
  refine .inr ⟨x, List.mem_of_getElem? hx, R.inj _ _ (hkx.symm.trans f3), ?_⟩
  rw [<- hv];simp [Instr.lookup, run_underlying R.und, MapKept.run_getObj_map hb, R.keyed.check w _ hl, f1, Result.andThen]
theorem MapV.entry {w : World} {m : Nat} {M : List (α × Value)} (R : KeyTy P kt et mt kv good) (h : MapV kv good w m M) (k : α) (hk : good k) :
  ∃ j v w1 M1, (Instr.mapEntry mt (.map (some m)) (kv k)).run P w = .ok (.tuple #[v, .int .i64 ((j : Nat) : Int)]) w1 /\ M1[j]? = some (k, v) /\ MapV kv good w1 m M1 /\ Chg (· = m) w w1 /\ w1.heap.size = w.heap.size /\
   (M1 = M \/ M1 = M ++ [(k, .slice none 0 0)] /\ j = M.length /\ v = .slice none 0 0 /\ ∀ x ∈ M, x.1 ≠ k) := by
 obtain ⟨es, clock, hb, hlen, hcl, hF⟩ := h.ex
 obtain ⟨lk, hlk⟩ := R.key k hk
 obtain ⟨hall, hgo⟩ := h.keys R hb
 have hoth : ∀ (o : Obj) (i : Nat), i ≠ m -> (ChangeMaps.setBlock w m o).heap[i]? = w.heap[i]? := fun o i hi => ChangeMaps.heap_setBlock_other hb _ (fun e => hi e)
 have hch : ∀ o : Obj, Chg (· = m) w (ChangeMaps.setBlock w m o) := fun o => ⟨rfl, rfl, rfl, by simp [ChangeMaps.setBlock], fun i _ hi => hoth o i hi⟩
 rcases R.keyed.find w hlk es.toList hall with ⟨f1, f2⟩ | ⟨j, e0, f1, f2, f3⟩
 ·have hn : ∀ x ∈ M, x.1 ≠ k := fun x hx he => by
   obtain ⟨i, hi, hie⟩ := List.getElem_of_mem hx
   have he' : es[i]? = some es[i] := Array.getElem?_eq_getElem (by omega)
   have hx2 := hF i _ x he' (by rw [List.getElem?_eq_getElem hi, hie])
   exact f2 es[i] (by simp) (by rw [hx2.1, he])
  refine ⟨M.length, .slice none 0 0, ChangeMaps.setBlock w m (.map (es.push ⟨kv k, .slice none 0 0, clock⟩) (clock + 1)), M ++ [(k, .slice none 0 0)], ?_, by simp, ⟨?_, ?_, ?_⟩, hch _, by simp [ChangeMaps.setBlock], .inr ⟨rfl, rfl, rfl, hn⟩⟩
  ·have : (clock : Int) = (M.length : Int) := by omega
   simp [Instr.mapEntry, run_underlying R.und, MapKept.run_getObj_map hb, R.keyed.check w false hlk, f1, R.zero, MapKept.run_setObj_map _ hb, Result.andThen, ChangeMaps.setBlock, goInt, this]
  ·refine ⟨_, _, ChangeMaps.heap_setBlock_same hb _, by simp [hlen], by simp [hcl], fun i e x he hx => ?_⟩
   rw [Array.getElem?_push] at he
   rw [List.getElem?_append] at hx
   by_cases hi : i = es.size
   ·rw [if_pos hi] at he
    rw [if_neg (by omega), hi, hlen] at hx
    simp at hx he
    subst hx; subst he;exact ⟨rfl, rfl, by simp only; omega⟩
   ·rw [if_neg hi] at he
    have hi2 : i < M.length := by have := (Array.getElem?_eq_some_iff.1 he).1; omega
    rw [if_pos hi2] at hx
    exact hF i e x he hx
  ·intro x hx
   rcases List.mem_append.1 hx with hx | hx
   ·exact h.good x hx
   ·simp at hx; subst hx; exact hk
  ·rw [List.pairwise_append]
   exact ⟨h.dist, by simp, fun x hx y hy => by simp at hy; subst hy; exact hn x hx⟩
 ·obtain ⟨x, hx, hkx, hv, hbn⟩ := hgo j e0 f2
  have hxk : x.1 = k := R.inj _ _ (hkx.symm.trans f3)
  have hj : es[j]? = some e0 := by simpa using f2
  have hsame : es.modify j (fun e => { e with key := kv k }) = es := by
   apply Array.ext'
   rw [Array.toList_modify, modify_eq_set' _ _ _ _ f2]
   have : ({ e0 with key := kv k } : MapEntry) = e0 := by rw [<- f3]
   rw [this];exact WideElems.set_self _ _ _ f2
  refine ⟨j, x.2, ChangeMaps.setBlock w m (.map es clock), M, ?_, by rw [hx, <- hxk], ⟨⟨es, clock, ChangeMaps.heap_setBlock_same hb _, hlen, hcl, hF⟩, h.good, h.dist⟩, hch _, by simp [ChangeMaps.setBlock], .inl rfl⟩
  simp [Instr.mapEntry, run_underlying R.und, MapKept.run_getObj_map hb, R.keyed.check w false hlk, f1, hj, f3, R.keyed.stays w hlk, hsame, MapKept.run_setObj_map _ hb, Result.andThen, ChangeMaps.setBlock, goInt, hv, hbn]
theorem MapV.store {w : World} {m : Nat} {M : List (α × Value)} (h : MapV kv good w m M) {j : Nat} {k : α} {v0 : Value} (hj : M[j]? = some (k, v0)) (v : Value) :
  ∃ w1, (Instr.entryStore mt (.map (some m)) (.int .i64 (j : Int)) v).run P w = .ok () w1 /\ MapV kv good w1 m (M.set j (k, v)) /\ Chg (· = m) w w1 /\ w1.heap.size = w.heap.size := by
 obtain ⟨es, clock, hb, hlen, hcl, hF⟩ := h.ex
 have hjl : j < M.length := (List.getElem?_eq_some_iff.1 hj).1
 have hje : es[j]? = some es[j] := Array.getElem?_eq_getElem (by omega)
 have hborn : ∀ (i : Nat) e, es[i]? = some e -> e.born = i := fun i e he => by
  have hi := (Array.getElem?_eq_some_iff.1 he).1
  exact (hF i e M[i] he (List.getElem?_eq_getElem (by omega))).2.2
 have hidx : es.findIdx? (fun e => ((e.born : Nat) : Int) == (j : Int)) = some j := by
  rw [Array.findIdx?_eq_some_iff_getElem]
  refine ⟨by omega, by rw [hborn j _ hje]; simp, fun i hi => ?_⟩
  have := hborn i es[i] (Array.getElem?_eq_getElem (by omega))
  rw [this];simp; omega
 have hoth : ∀ (o : Obj) (i : Nat), i ≠ m -> (ChangeMaps.setBlock w m o).heap[i]? = w.heap[i]? := fun o i hi => ChangeMaps.heap_setBlock_other hb _ (fun e => hi e)
 refine ⟨ChangeMaps.setBlock w m (.map (es.modify j fun e => { e with val := v }) clock), ?_, ⟨⟨_, clock, ChangeMaps.heap_setBlock_same hb _, by simp [hlen], by simp [hcl], fun i e x he hx => ?_⟩, fun x hx => ?_, ?_⟩, ⟨rfl, rfl, rfl, by simp [ChangeMaps.setBlock], fun i _ hi => hoth _ i hi⟩, by simp [ChangeMaps.setBlock]⟩
 ·simp [Instr.entryStore, MapKept.run_getObj_map hb, asInt, asIntOf, hidx, MapKept.run_setObj_map _ hb, Result.andThen, ChangeMaps.setBlock]
 ·rw [Array.getElem?_modify] at he
  by_cases hi : j = i
  ·subst hi
   rw [if_pos rfl, hje] at he
   rw [List.getElem?_set_self hjl] at hx
   simp at he hx
   subst he; subst hx;have := hF j _ _ hje hj
   exact ⟨this.1, rfl, this.2.2⟩
  ·rw [if_neg hi] at he
   rw [List.getElem?_set_ne hi] at hx
   exact hF i e x he hx
 ·rcases List.mem_or_eq_of_mem_set hx with hx | hx
  ·exact h.good x hx
  ·rw [hx]; show good k; exact h.good (k, v0) (List.mem_of_getElem? hj)
 ·have hmap : (M.set j (k, v)).map (·.1) = M.map (·.1) := by
   rw [List.map_set]
   apply List.ext_getElem?
   intro i
   by_cases hi : j = i
   ·subst hi
    rw [List.getElem?_set_self (by simpa using hjl), List.getElem?_map, hj]; rfl
   ·rw [List.getElem?_set_ne hi]
  have h1 : ((M.set j (k, v)).map (·.1)).Pairwise (· ≠ ·) := by rw [hmap, List.pairwise_map]; exact h.dist
  rw [List.pairwise_map] at h1;exact h1
end
end Go.Proofs.YtnmdjggdgakeoaaGreat
