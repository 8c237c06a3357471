/- Lemmas for the proof. -/
import Derived.Test.YtnmdjggdgakeoaaGreatPXk
import Derived.Test.YtnmdjggdgakeoaaGreatPXj
import Derived.Laws.CopyRow
import Derived.Laws.MakeOwn
import Derived.Test.YtnmdjggdgakeoaaGreatPXl
import Derived.Test.YtnmdjggdgakeoaaGreatPXc
import Derived.Test.YtnmdjggdgakeoaaGreatPXi
import Derived.Test.YtnmdjggdgakeoaaGreatPXb
set_option maxRecDepth 100000
set_option maxHeartbeats 16000000
set_option linter.unusedVariables false
set_option linter.unusedSimpArgs false
set_option linter.unusedSectionVars false
namespace Go.Proofs.YtnmdjggdgakeoaaGreat
open Go Go.RowKit Sha
abbrev Dg := {l : List Nat // goodD l}
def dgV (x : Dg) : Value := .agg (bA x.1)
def dgE (x : Dg) : List Value := (bA x.1).toList
def sumD (m : List Nat) : Dg := ⟨sumN m, sumN_good m⟩
def zeroD : Dg := ⟨List.replicate 32 0, by simp, fun x hx => by rw [List.eq_of_mem_replicate hx]; decide⟩
theorem dgE_len (x : Dg) : (dgE x).length = 32 := by unfold dgE; rw [Array.length_toList, bA_size]; exact x.2.1
theorem dgE_one (x : Dg) : ∀ v ∈ dgE x, v.oneCell' = true := fun v hv => by
 unfold dgE bA at hv
 simp at hv
 obtain ⟨n, _, rfl⟩ := hv
 rfl
theorem digInfo : ∃ z, (Tryz.prog.info? 38).map (fun i => (i.zero, i.size, i.bytes)) = some (some z, 32, 32) /\ z.cells.size = 32 := ⟨.agg (bA (List.replicate 32 0)), by kernel_rfl, by kernel_rfl⟩
theorem digRT : RowTy Tryz.prog dgV dgE 32 32 353 38 :=
 ⟨Tryz.underlying353, digInfo, fun x => rfl, dgE_len, dgE_one, by decide⟩
def rowA (L : List Dg) : Array Value := (cellsK dgE L).toArray
theorem rowA_size (L : List Dg) : (rowA L).size = L.length * 32 := by unfold rowA; rw [List.size_toArray, cellsK_len dgE_len]
theorem rowA_get (L : List Dg) (i j : Nat) (hi : i < L.length) (hj : j < 32) : (rowA L)[i * 32 + j]? = (dgE L[i])[j]? := by
 unfold rowA;rw [List.getElem?_toArray]
 exact cellsK_get dgE_len L i j _ (List.getElem?_eq_getElem hi) hj
theorem zero_cells : dgE zeroD = List.replicate 32 (Value.int .u8 0) := by simp [dgE, zeroD, bA]
theorem cellsK_zero : ∀ n, cellsK dgE (List.replicate n zeroD) = List.replicate (n * 32) (Value.int .u8 0)
 | 0 => by simp [cellsK]
 | n + 1 => by rw [List.replicate_succ, cellsK_cons, cellsK_zero n, zero_cells, List.replicate_append_replicate]; congr 1; omega
theorem madeZ (n : Nat) (Z : Array Value) (hZs : Z.size = 32) (hz : ∀ j, j < 32 -> Z[j]? = some (.int .u8 0)) : madeCells Z (n * 32) = (List.replicate (n * 32) (Value.int .u8 0)).toArray := by
 apply Array.ext
 ·rw [size_madeCells, List.size_toArray, List.length_replicate]
 ·intro k h1 h2
  have h32 : k % 32 < 32 := Nat.mod_lt _ (by decide)
  simp [madeCells, hZs]
  rw [getElem!_pos Z (k % 32) (by rw [hZs]; exact h32)]
  have := hz (k % 32) h32
  rw [Array.getElem?_eq_getElem (by rw [hZs]; exact h32)] at this
  exact Option.some.inj this
theorem mk_digs (n : Nat) (hn : n <= 65536) (w : World) :
  (Instr.makeSlice 353 (.int .i64 (n : Int)) (.int .i64 (n : Int))).run Tryz.prog w = .ok (.slice (some ⟨w.heap.size, 0, none⟩) n n) (w.alloc (.cells (rowA (List.replicate n zeroD)) 38)) := by
 have hI : (Tryz.prog.info? 38).map (fun i => (i.zero, i.size, i.bytes)) = some (some (.agg (bA (List.replicate 32 0))), 32, 32) := by kernel_rfl
 obtain ⟨i, hi, hh⟩ := Option.map_eq_some_iff.1 hI
 simp only [Prod.mk.injEq] at hh
 obtain ⟨hz, hs, hb⟩ := hh
 have h := run_makeSlice (P := Tryz.prog) w 353 38 i (.agg (bA (List.replicate 32 0))) Tryz.underlying353 hi hz .i64 .i64 (n : Int) (n : Int) (by omega) (Int.le_refl _) (by rw [hs]; omega) (by rw [hb]; omega) (by omega)
 rw [h, Int.toNat_natCast, hs]
 have e : madeCells (Value.agg (bA (List.replicate 32 0))).cells (n * 32) = rowA (List.replicate n zeroD) := by
  unfold rowA;rw [cellsK_zero];exact madeZ n _ (by show (bA (List.replicate 32 0)).size = 32; rw [bA_size, List.length_replicate]) (fun j hj => by
   show (bA (List.replicate 32 0))[j]? = _
   rw [bA_get _ j (by rw [List.length_replicate]; exact hj)]
   have e0 : (List.replicate 32 0).getD j 0 = 0 := by rw [List.getD_eq_getElem?_getD, List.getElem?_replicate, if_pos hj]; rfl
   rw [e0]; rfl)
 rw [e]
theorem run_copyK {P : Program} (w : World) (dT sT ty elem : TypeId) (k g o dLen dCap : Nat) (a : Addr) (sLen sCap : Nat) (cur : Array Value) (t : TypeId) (cs : List Value)
  (hu : P.underlying dT = some (.slice elem)) (hs : (P.info? elem).map (·.size) = some k)
  (hg : w.heap[g]? = some (.cells cur t (0, 0))) (hn : cs.length = Nat.min sLen dLen * k)
  (hsrc : ∀ j v, cs[j]? = some v -> w.cell? (a.add j) = some v) (hfit : o + cs.length <= cur.size) (h1 : ∀ v ∈ cs, v.oneCell' = true) :
  (Builtin.copy_ #[dT, sT] ty #[.slice (some ⟨g, o, none⟩) dLen dCap, .slice (some a) sLen sCap]).run P w =
   .ok (goInt (Nat.min sLen dLen)) (w.setRow g (cur.toList.take o ++ cs ++ cur.toList.drop (o + cs.length)).toArray) := by
 have hl := run_loadCells_list (P := P) w a cs hsrc
 have hst := run_storeCells_at P g o t cs 0 cur w hg (by simpa using hfit) h1
 cases hq : P.info? elem with
 | none => simp [hq] at hs
 | some i =>
  have hi : i.size = k := by simpa [hq] using hs
  simp [Builtin.copy_, run_underlying hu, Builtin.lenOf, Builtin.firstCells, sizeOf, typeInfo, hq, hi, <- hn, hl, hst]
theorem copy_digs {w : World} (ty : TypeId) (g m n c : Nat) (a : Addr) (hap : a.spot = none) (L : List Dg) (hL : L.length = n) (hnm : n <= m) (hg : w.heap[g]? = some (.cells (rowA (List.replicate m zeroD)) 38 (0, 0))) (hR : RowK dgE 32 w (some a) L) :
  (Builtin.copy_ #[353, 353] ty #[.slice (some ⟨g, 0, none⟩) m m, .slice (some a) n c]).run Tryz.prog w = .ok (goInt n) (w.setRow g (rowA (L ++ List.replicate (m - n) zeroD))) := by
 have hs : (Tryz.prog.info? 38).map (·.size) = some 32 := info32
 have hmin : Nat.min n m = n := Nat.min_eq_left hnm
 obtain ⟨b, o, sp⟩ := a
 simp only at hap
 subst hap;have hsrc : ∀ j v, (cellsK dgE L)[j]? = some v -> w.cell? ((⟨b, o, none⟩ : Addr).add j) = some v := fun j v hj => by
  rw [add_plain];exact rowK_cells dgE_len hR j v hj
 have hr := run_copyK (P := Tryz.prog) w 353 353 ty 38 32 g 0 m m ⟨b, o, none⟩ n c (rowA (List.replicate m zeroD)) 38 (cellsK dgE L) Tryz.underlying353 hs hg (by rw [cellsK_len dgE_len, hL, hmin]) hsrc (by rw [rowA_size, cellsK_len dgE_len, List.length_replicate, hL]; omega) (fun v hv => cellsK_oneCell dgE_one L v hv)
 rw [hr, hmin]
 have e : ((rowA (List.replicate m zeroD)).toList.take 0 ++ cellsK dgE L ++ (rowA (List.replicate m zeroD)).toList.drop (0 + (cellsK dgE L).length)).toArray = rowA (L ++ List.replicate (m - n) zeroD) := by
  unfold rowA;rw [cellsK_app, cellsK_zero, cellsK_zero, List.take_zero, List.nil_append, Nat.zero_add, cellsK_len dgE_len, hL, List.drop_replicate, show m * 32 - n * 32 = (m - n) * 32 by omega]
 rw [e]
theorem rowA_set {w : World} {g i : Nat} {L : List Dg} (hg : w.heap[g]? = some (.cells (rowA L) 38 (0, 0))) (hi : i < L.length) (d : Dg) : (w.setCells g (i * 32) (dgE d)).heap[g]? = some (.cells (rowA (L.set i d)) 38 (0, 0)) := by
 obtain ⟨A', h1, h2, h3, h4⟩ := setC_block g 38 (dgE d) (i * 32) w _ hg
 have e : A' = rowA (L.set i d) := by
  apply Array.ext_getElem?
  intro j
  by_cases hj : j < L.length * 32
  ·have hq : j / 32 < L.length := by omega
   have hj2 : j = j / 32 * 32 + j % 32 := by omega
   have hr : j % 32 < 32 := Nat.mod_lt _ (by decide)
   by_cases he : j / 32 = i
   ·have := h3 (j % 32) (by rw [dgE_len]; exact hr) (by rw [rowA_size]; omega)
    rw [hj2, he, this, rowA_get _ i _ (by rw [List.length_set]; exact hi) hr]
    rw [List.getElem_set_self]
   ·rw [h4 j (by rw [dgE_len]; omega), hj2, rowA_get L _ _ hq hr, rowA_get _ (j / 32) _ (by rw [List.length_set]; exact hq) hr, List.getElem_set_ne (fun e => he e.symm)]
  ·rw [Array.getElem?_eq_none (by rw [h2, rowA_size]; omega), Array.getElem?_eq_none (by rw [rowA_size, List.length_set]; omega)]
 rw [e] at h1;exact h1
def depthF (n : Nat) : Nat -> Nat -> Nat
 | 0, d => d
 | f + 1, d => if 2 ^ d < n then depthF n f (d + 1) else d
def depthN (n : Nat) : Nat := depthF n 20 0
theorem depthF_spec (n : Nat) : ∀ f d, n <= 2 ^ (d + f) -> n <= 2 ^ depthF n f d /\ d <= depthF n f d /\ (depthF n f d = d \/ 2 ^ (depthF n f d - 1) < n) /\ ∀ k, d <= k -> k < depthF n f d -> 2 ^ k < n
 | 0, d, h => ⟨h, Nat.le_refl _, .inl rfl, fun k h1 h2 => absurd h2 (Nat.not_lt.2 h1)⟩
 | f + 1, d, h => by
  unfold depthF
  split
  ·rename_i hlt
   obtain ⟨h1, h2, h3, h4⟩ := depthF_spec n f (d + 1) (by rw [show d + 1 + f = d + (f + 1) by omega]; exact h)
   refine ⟨h1, by omega, .inr ?_, fun k h5 h6 => ?_⟩
   ·rcases h3 with h3 | h3
    ·rw [h3]; simpa using hlt
    ·exact h3
   ·rcases Nat.eq_or_lt_of_le h5 with h7 | h7
    ·rw [<- h7]; exact hlt
    ·exact h4 k h7 h6
  ·rename_i hlt
   exact ⟨Nat.not_lt.1 hlt, Nat.le_refl _, .inl rfl, fun k h1 h2 => absurd h2 (Nat.not_lt.2 h1)⟩
theorem depthN_spec (n : Nat) (h : n <= 1024) : n <= 2 ^ depthN n /\ (∀ k, k < depthN n -> 2 ^ k < n) /\ depthN n <= 10 := by
 have hn : n <= 2 ^ (0 + 20) := Nat.le_trans h (by decide)
 obtain ⟨h1, _, _, h4⟩ := depthF_spec n 20 0 hn
 refine ⟨h1, fun k hk => h4 k (Nat.zero_le _) hk, ?_⟩
 rcases Nat.lt_or_ge 10 (depthN n) with h5 | h5
 ·have := h4 10 (Nat.zero_le _) h5; omega
 ·exact h5
theorem shl_wrap (k : Nat) (hk : k <= 10) : wrap64 ((2 : Int) ^ k) = ((2 ^ k : Nat) : Int) := by
 rcases (by omega : k = 0 \/ k = 1 \/ k = 2 \/ k = 3 \/ k = 4 \/ k = 5 \/ k = 6 \/ k = 7 \/ k = 8 \/ k = 9 \/ k = 10) with rfl | rfl | rfl | rfl | rfl | rfl | rfl | rfl | rfl | rfl | rfl <;> exact IntWalk.wrap64_in _ (by decide)
theorem depth_c (n : Nat) (hn : n <= 1024) (w : World) :
  Calls Tryz.prog 317 #[.int .i64 (n : Int)] w fun r w' => r = .returned (.int .i64 (depthN n : Int)) /\ w = w' := by
 obtain ⟨h1, h2, h3⟩ := depthN_spec n hn
 obtain ⟨D, hD⟩ : ∃ D, D = depthN n := ⟨_, rfl⟩
 rw [<- hD] at h1 h2 h3 ⊢
 have H1 := Lib.hid h1;have H2 := Lib.hid h2;clear h1 h2 hD
 go_enter Tryz.func317, Tryz.ntmps317
 go_wp2
 go_loop [3] (fun v => ∃ k : Nat, k <= D /\ v = .int .i64 (k : Int)) (fun v => D - (intOf v).toNat)
 case atStart => exact ⟨0, Nat.zero_le _, rfl⟩
 case round =>
  obtain ⟨k, hk, rfl⟩ := hrel
  obtain ⟨p, hp⟩ : ∃ p, p = 2 ^ k := ⟨_, rfl⟩
  have hsh := shl_wrap k (by omega)
  rw [<- hp] at hsh
  by_cases hlt : k < D
  ·have hpn : p < n := hp ▸ H2.out k hlt
   have dl : (p : Int) < (n : Int) := by omega
   clear hp;go_wp2
   go_round
   case rel => exact ⟨k + 1, by omega, by go_num⟩
   case measure => simp [intOf]; omega
  ·have hkD : k = D := by omega
   have hpn : ¬ p < n := by rw [hp, hkD]; exact Nat.not_lt.2 H1.out
   have dl : ¬ (p : Int) < (n : Int) := by omega
   have HKD := Lib.hid hkD;clear hp hkD;go_wp2
   go_ret
   exact ⟨by first | rfl | (rw [HKD.out]; rfl), rfl⟩
def u64V (x : Nat) : Value := .int .u64 (x : Int)
def u64E (x : Nat) : List Value := [u64V x]
theorem u64RT : RowTy Tryz.prog u64V u64E 1 8 248 47 :=
 ⟨Tryz.underlying248, ⟨.int .u64 0, by kernel_rfl, rfl⟩, fun x => rfl, fun x => rfl, fun x v hv => by simp [u64E] at hv; subst hv; rfl, by decide⟩
theorem RowTy.run_subB {P : Program} {α : Type} {val : α -> Value} {enc : α -> List Value} {k b : Nat} {S T : TypeId} (R : RowTy P val enc k b S T) (w : World) (a : Option Addr) (n c l h : Nat) (hl : l <= h) (hc : h <= c) : (Instr.sliceAt S (.slice a n c) (some (.int .i64 (l : Int))) (some (.int .i64 (h : Int))) none).run P w = .ok (.slice (subK k a c l) (h - l) (c - l)) w := by
 have hu : P.underlying S = some (.slice (P.elem S)) := by rw [R.elem]; exact R.und
 rw [run_sliceAt_slice (P := P) w S _ _ _ _ hu, run_slice_lh w S a n c hu .i64 .i64 (l : Int) (h : Int) (by omega) (by omega) (by omega), R.elem, R.sizeOf]
 simp only [Result.andThen, sliced, Int.toNat_natCast, subK]
theorem RowTy.wpList_subB {P : Program} {α : Type} {val : α -> Value} {enc : α -> List Value} {k b : Nat} {S T : TypeId} (R : RowTy P val enc k b S T) {w : World} {ops : Array Oper} {rest : List Oper} {o : Oper} {A : Act} {Q : Exit -> Act -> World -> Prop} (hgd : o.guard = none) (x y z : Operand) (ho : o.op = .slice S x (some y) (some z) none) {a : Option Addr} {n c l h : Nat} (hx : A.eval x = .slice a n c) (hy : A.eval y = .int .i64 (l : Int)) (hz : A.eval z = .int .i64 (h : Int)) (hl : l <= h) (hc : h <= c)
  (hK : wpList P ops Q rest (A.put o.dst (.slice (subK k a c l) (h - l) (c - l))) w) : wpList P ops Q (o :: rest) A w :=
 wpList_plain hgd fun _ hk => by
  unfold Oper.wp execOp
  simp only [ho, hx, hy, hz, Option.map_some, Option.map_none, Sem.run_bind, R.run_subB w a n c l h hl hc, Result.andThen_ok]
  exact hk _ _ hK
theorem wpList_load_rowG {P : Program} {ops : Array Oper} {rest : List Oper} {o : Oper} {A : Act} {w : World} {Q : Exit -> Act -> World -> Prop} (hw : Region.wanted o (yielded ops A.tmps) = true) (ty : TypeId) (x : Operand) (ho : o.op = .load ty x)
  (g : Nat) (hx : A.eval x = .pointer (some ⟨g, 0, none⟩)) (t : TypeId) (cs : Array Value) (fr : Nat × Nat) (d : TypeDesc) (hg : w.heap[g]? = some (.cells cs t fr))
  (hu : P.underlying ty = some d) (hd : (match d with | .struct _ | .array _ _ => true | _ => false) = true) (hi : (P.info? ty).map (·.size) = some cs.size)
  (h : wpList P ops Q rest (A.put o.dst (.agg cs)) w) : wpList P ops Q (o :: rest) A w := by
 exact wpList_step fun K hK => by simp only [hw, if_true]; exact wp_load_row ty x ho g hx t cs fr d hg hu hd hi (hK _ _ h)
def lowsL (L : List Nat) : List Nat := L.flatMap (lowB 8)
theorem lowsL_lt (L : List Nat) : ∀ x ∈ lowsL L, x < 256 := fun x hx => by
 obtain ⟨y, _, h⟩ := List.mem_flatMap.1 hx
 exact lowB_lt 8 y x h
theorem lowsL_len : ∀ (L : List Nat), (lowsL L).length = 8 * L.length
 | [] => rfl
 | x :: L => by unfold lowsL; rw [List.flatMap_cons, List.length_append, lowB_len]; have := lowsL_len L; unfold lowsL at this; rw [this, List.length_cons]; omega
theorem lowsL_take (L : List Nat) (i : Nat) (h : i < L.length) : lowsL (L.take (i + 1)) = lowsL (L.take i) ++ lowB 8 L[i] := by
 unfold lowsL;rw [List.take_succ_eq_append_getElem h, List.flatMap_append, List.flatMap_cons, List.flatMap_nil, List.append_nil]
def epochPart (k : Nat) (L : List Nat) : List Nat := (L.drop (32 * k)).take 32
def epochB (k : Nat) (L : List Nat) : List Nat := padZ (lowsL (epochPart k L)) 256
theorem superBlock_c {n t : Nat} (hg : geoB n t = true) (k m : Nat) (hk : k < epochsN n) (L : List Nat) (hL : L.length = m) (hm : m = sealedN n) (hb : ∀ x ∈ L, x < 18446744073709551616) (g o c : Nat) (hc : m <= c) (w : World) (hR : RowK u64E 1 w (some ⟨g, o, none⟩) L) :
  Calls Tryz.prog 200 #[.agg #[.int .i64 (n : Int), .int .i64 (t : Int)], .int .i64 (k : Int), .slice (some ⟨g, o, none⟩) m c] w fun r w' => ∃ b, r = .returned (.tuple #[.slice (some ⟨b, 0, none⟩) 256 256, .int .i64 0]) /\ w.heap.size <= b /\ w'.heap[b]? = some (.cells (bA (epochB k L)) 5 (0, 0)) /\ Below w.heap.size w w' := by
 have hgo := geo_ok hg
 have hs := sealedN_le n hgo.2.1
 have he := epochsN_le n hgo.2.1
 have HE := Lib.hid (fun w => gcheck_c n t w)
 rw [geoE_ok hg] at HE
 have hif : ifGeo n t (sealedN (n : Int).toNat) = m := by unfold ifGeo; rw [if_pos hg, Int.toNat_natCast, hm]
 have HS := Lib.hid (fun w => gSealed_c n t w)
 rw [hif] at HS;have HA := Lib.hid (fun w => gEpochAt_c hg k (by omega) w)
 rw [if_pos hk] at HA
 obtain ⟨z, hz⟩ : ∃ z, z = 1 + k := ⟨_, rfl⟩
 rw [<- hz] at HA;have hlo : 32 * k <= m := by rw [hm]; unfold epochsN at hk; omega
 obtain ⟨hi, hhi⟩ : ∃ hi, hi = min (32 * (k + 1)) m := ⟨_, rfl⟩
 obtain ⟨lo, hlo2⟩ : ∃ lo, lo = 32 * k := ⟨_, rfl⟩
 have h1 : lo <= hi := by omega
 have h2 : hi <= c := by omega
 have HPT : Hid (epochPart k L = (L.drop lo).take (hi - lo)) := Lib.hid (by
  unfold epochPart;rw [hlo2, hhi]
  apply List.ext_getElem?
  intro j;rw [List.getElem?_take, List.getElem?_take]
  by_cases h5 : j < 32
  ·rw [if_pos h5]
   split
   ·rfl
   ·rw [List.getElem?_drop, List.getElem?_eq_none]; omega
  ·rw [if_neg h5, if_neg (by omega)])
 have e1 : IntKind.i64.wrap (32 * (k : Int)) = (lo : Int) := by rw [IntWalk.i64_in _ (by omega)]; omega
 have e2 : IntKind.i64.wrap ((k : Int) + 1) = (k : Int) + 1 := IntWalk.i64_in _ (by omega)
 have e3 : IntKind.i64.wrap (32 * ((k : Int) + 1)) = 32 * ((k : Int) + 1) := IntWalk.i64_in _ (by omega)
 have e4 : min (32 * ((k : Int) + 1)) (m : Int) = (hi : Int) := by omega
 have z0 : ¬ (z : Int) < 0 := by omega
 have HR := Lib.hid hR;have HL := Lib.hid hL;have HB := Lib.hid hb;have HHI := Lib.hid (And.intro h1 (And.intro h2 (And.intro hs (show hi - lo <= 32 by omega))))
 have HLM : Hid (lo <= m /\ hi <= m /\ L.length <= c) := Lib.hid ⟨by omega, by omega, by omega⟩
 have HX := Lib.hid (heap_new' w (.cells #[.int .i64 (n : Int), .int .i64 (t : Int)] 44))
 clear hg hgo hs he hif hz hlo hhi hlo2 h1 h2 hR hL hb hk hm hc
 go_enter Tryz.func200, Tryz.ntmps200
 go_wp2_with (first | (refine wpList_load_row rfl 44 (.tmp 3) rfl w.heap.size rfl _ _ _ _ HX.out Tryz.underlying44 rfl (by rw [geo2]; rfl) ?_) | fail)
 refine (HE.out _).mono ?_
 rintro r w1 ⟨rfl, hb1⟩
 have HC1 := Lib.hid ((hb1.block w.heap.size (by simp)).trans HX.out)
 have HB1 : Hid (Below w.heap.size w w1) := (below_box w _).trans (hb1.mono (by simp))
 clear hb1 HX HE;go_wp2_with (first | (refine wpList_load_row rfl 44 (.tmp 3) rfl w.heap.size rfl _ _ _ _ HC1.out Tryz.underlying44 rfl (by rw [geo2]; rfl) ?_) | (refine wpList_load_rowG (by rfl) 44 (.tmp 3) rfl w.heap.size rfl _ _ _ _ HC1.out Tryz.underlying44 rfl (by rw [geo2]; rfl) ?_) | fail)
 refine (HS.out _).mono ?_
 rintro r w2 ⟨rfl, hb2⟩
 have HC2 := Lib.hid ((hb2.block w.heap.size (lt_blk HC1.out)).trans HC1.out)
 have HB2 : Hid (Below w.heap.size w w2) := HB1.out.trans (hb2.mono HB1.out.size)
 clear hb2 HS;go_wp2_with (first | (refine wpList_load_rowG (by rfl) 44 (.tmp 3) rfl w.heap.size rfl _ _ _ _ HC2.out Tryz.underlying44 rfl (by rw [geo2]; rfl) ?_) | fail)
 refine (HA.out _).mono ?_
 rintro r w3 ⟨rfl, hb3⟩
 have HB3 : Hid (Below w.heap.size w w3) := HB2.out.trans (hb3.mono HB2.out.size)
 clear hb3 HA;have hR3 := HR.out.up HB3.out (Nat.le_refl _)
 obtain ⟨sa, hsa⟩ : ∃ sa, sa = subK 1 (some (⟨g, o, none⟩ : Addr)) c lo := ⟨_, rfl⟩
 obtain ⟨y, hy⟩ : ∃ y, y = hi - lo := ⟨_, rfl⟩
 obtain ⟨sc, hsc⟩ : ∃ sc, sc = c - lo := ⟨_, rfl⟩
 have HSA := Lib.hid hsa;have hRS : RowK u64E 1 w3 sa (epochPart k L) := by
  rw [hsa, HPT.out]
  exact (hR3.sub HLM.out.2.2).take _
 have HRS := Lib.hid hRS;have HPL : Hid ((epochPart k L).length = y) := Lib.hid (by rw [HPT.out, List.length_take, List.length_drop, HL.out, hy]; have := HLM.out; have := HHI.out; omega)
 have HPB : Hid (∀ x ∈ epochPart k L, x < 18446744073709551616) := Lib.hid (fun x hx => HB.out x (List.mem_of_mem_drop (List.mem_of_mem_take hx)))
 have HY : Hid (y <= 32) := Lib.hid (by rw [hy]; exact HHI.out.2.2.2)
 clear hR3 hRS;go_wp2_with (first
  | (refine u64RT.wpList_subB rfl (.tmp 27) (.tmp 29) (.tmp 35) rfl rfl rfl rfl HHI.out.1 HHI.out.2.1 ?_; rw [<- hsa, <- hy, <- hsc]; clear hsa hy hsc)
  | fail)
 obtain ⟨M, hM⟩ : ∃ M, M = epochPart k L := ⟨_, rfl⟩
 rw [<- hM] at HRS HPL HPB;have HM := Lib.hid hM;clear hM
 go_loopw [8, 38] (fun v8 v38 wr => ∃ i j : Nat, i <= y /\ v38 = .int .i64 (i : Int) /\ Hid (j = 8 * i) /\ Hid (wr.ownsRow w.heap.size 5 1 v8 j (bA (lowsL (M.take i))).toList) /\ Hid (Below w.heap.size w wr)) (fun _ v38 _ => y - (intOf v38).toNat)
 case atStart => exact ⟨0, 0, Nat.zero_le _, rfl, rfl, ⟨rfl, .inl ⟨rfl, rfl⟩⟩, HB3⟩
 case round =>
  obtain ⟨i, j, hi, rfl, hj, ho, hb⟩ := hrel
  by_cases hlt : i < y
  ·have hy32 := HY.out
   have dl : (i : Int) < (y : Int) := by omega
   have dn : ¬ (i : Int) < 0 := by omega
   have hgi : M[i]? = some (M[i]'(by rw [HPL.out]; exact hlt)) := List.getElem?_eq_getElem _
   obtain ⟨x, hx⟩ : ∃ x, x = M[i]'(by rw [HPL.out]; exact hlt) := ⟨_, rfl⟩
   rw [<- hx] at hgi;have hRr : RowK u64E 1 wr sa M := by
    rw [HSA.out, HM.out, HPT.out]
    exact ((HR.out.up hb.out (Nat.le_refl _)).sub HLM.out.2.2).take _
   obtain ⟨g1, o1, hsa1, hg1, hcell⟩ := hRr i x hgi
   subst hsa1;have cx : wr.cell? ⟨g1, o1 + i, none⟩ = some (.int .u64 (x : Int)) := by have := hcell 0 (u64V x) rfl; rw [Nat.mul_one, Nat.add_zero] at this; exact this
   have hxb : x < 18446744073709551616 := by rw [hx]; exact HPB.out _ (List.getElem_mem _)
   have hlt2 : lowsL (M.take (i + 1)) = lowsL (M.take i) ++ lowB 8 x := by rw [hx]; exact lowsL_take M i (by rw [HPL.out]; exact hlt)
   have HPT8 := Lib.hid (put_c 8 x hxb (by omega) (by omega) 8 (x : Int) rfl rfl wr)
   have HLT := Lib.hid hlt2;clear hgi hx hRr hcell hlt2 hxb;go_wp2_with fail
   refine HPT8.out.mono ?_
   rintro r w5 ⟨q, rfl, hq1, hq2, hq3, hb5⟩
   have ho5 := own_up ho.out hb5
   have hB5 : Below w.heap.size w w5 := hb.out.trans (hb5.mono hb.out.size)
   have hq4 := bytesAt_block (lowB_lt 8 x) hq3
   rw [lowB_len] at hq4;have HO5 := Lib.hid ho5;have HB5 := Lib.hid hB5;have HQ4 := Lib.hid hq4;have HIJ : Hid (j + 8 = 8 * (i + 1)) := Lib.hid (by have := hj.out; omega)
   have HJ : Hid (j + 8 <= 1000000) := Lib.hid (by have := hj.out; have := HY.out; omega)
   clear hq1 hq2 hq3 hb5 ho hb ho5 hB5 hq4 HPT8;go_wp2_with (first
    | (refine wpList_append_bytes (base := w.heap.size) (n := j) (m := 8) (l := lowB 8 x) rfl (.tmp 42) (.tmp 44) rfl rfl HO5.out rfl (lowB_len 8 x) HQ4.out (fun e => by cases e) HJ.out HB5.out.size ?_; intro v6 w6 hown6 hgr6; rw [bA_apps, <- HLT.out] at hown6; have HO6 := Lib.hid hown6; have HB6 := Lib.hid (HB5.out.grown hgr6 HB5.out.size (own_base HO5.out)); clear hown6 hgr6 HO5 HB5 HQ4)
    | fail)
   go_roundw
   case rel => exact ⟨i + 1, j + 8, by omega, by go_num, HIJ.out, HO6.out, HB6.out⟩
   case measure => simp [intOf]; omega
  ·have hiy : i = y := by omega
   have dl : ¬ (i : Int) < (y : Int) := by omega
   have hjy : j = 8 * y := by rw [hj.out, hiy]
   have htk : M.take i = M := by rw [hiy]; exact List.take_of_length_le (by rw [HPL.out]; exact Nat.le_refl _)
   rw [htk] at ho;obtain ⟨av, cv, rfl⟩ := own_sl ho.out
   have hBA : BytesAt wr av cv (lowsL M) := by
    refine ⟨lowsL_lt M, fun h0 => ?_⟩
    rw [lowsL_len, HPL.out] at h0
    obtain ⟨qv, cv', he, _, _⟩ := own_pos ho.out (by omega)
    injection he with he1 he2 he3
    subst he1 he3
    exact (own_bytesAt ho.out (lowsL_lt M)).2.2 (by rw [lowsL_len, HPL.out]; exact h0)
   have HP := Lib.hid (wpad_c av j cv (lowsL M) (by rw [lowsL_len, HPL.out, hjy]) (by have := HY.out; omega) 256 (by omega) (by omega) 256 rfl wr hBA)
   rw [HM.out, show padZ (lowsL (epochPart k L)) 256 = epochB k L from rfl] at HP
   obtain ⟨S, hS⟩ : ∃ S, S = epochB k L := ⟨_, rfl⟩
   rw [<- hS] at HP;have HSS := Lib.hid hS;have HBR := Lib.hid hb.out;clear hiy hjy htk hBA ho hb hj hS;go_wp2_with fail
   refine HP.out.mono ?_
   rintro r w5 ⟨b, rfl, hb1, hb2, hb3, hb4⟩
   have HB5 : Hid (Below w.heap.size w w5) := HBR.out.trans (hb4.mono HBR.out.size)
   have HQ := Lib.hid (And.intro (Nat.le_trans HBR.out.size hb1) hb3)
   clear hb1 hb2 hb3 hb4;go_wp2
   go_ret2
   exact ⟨b, rfl, HQ.out.1, by rw [<- HSS.out]; exact HQ.out.2, HB5.out⟩
def upD (lv : Nat) (row : List Dg) (i : Nat) : Dg := sumD (nodeT lv i (row.getD (2 * i) zeroD).1 (row.getD (2 * i + 1) zeroD).1)
def levelUp (lv : Nat) (row : List Dg) : List Dg := (List.range (row.length / 2)).map (upD lv row)
def textsUp (lv : Nat) (row : List Dg) : List (List Nat) := (List.range (row.length / 2)).map fun i => nodeT lv i (row.getD (2 * i) zeroD).1 (row.getD (2 * i + 1) zeroD).1
def rowAt (r : List Dg) : Nat -> List Dg
 | 0 => r
 | j + 1 => levelUp (j + 1) (rowAt r j)
def textsAt (r : List Dg) : Nat -> List (List Nat)
 | 0 => []
 | j + 1 => textsAt r j ++ textsUp (j + 1) (rowAt r j)
theorem levelUp_len (lv : Nat) (row : List Dg) : (levelUp lv row).length = row.length / 2 := by simp [levelUp]
theorem rowAt_len (r : List Dg) (d : Nat) (h : r.length = 2 ^ d) : ∀ j, j <= d -> (rowAt r j).length = 2 ^ (d - j)
 | 0, _ => h
 | j + 1, hj => by
  show (levelUp (j + 1) (rowAt r j)).length = _
  rw [levelUp_len, rowAt_len r d h j (by omega), show d - j = d - (j + 1) + 1 by omega, Nat.pow_succ]
  omega
def padD (l : List Dg) : List Dg := l ++ List.replicate (2 ^ depthN l.length - l.length) zeroD
theorem padD_len (l : List Dg) (h : l.length <= 1024) : (padD l).length = 2 ^ depthN l.length := by
 have := (depthN_spec l.length h).1
 simp [padD]; omega
def topD (l : List Dg) : Dg := (rowAt (padD l) (depthN l.length)).getD 0 zeroD
def treeTexts (l : List Dg) : List (List Nat) := textsAt (padD l) (depthN l.length)
def partU (lv : Nat) (row : List Dg) (i : Nat) : List Dg := (levelUp lv row).take i ++ List.replicate (row.length / 2 - i) zeroD
theorem partU_len (lv : Nat) (row : List Dg) (i : Nat) (h : i <= row.length / 2) : (partU lv row i).length = row.length / 2 := by
 unfold partU;rw [List.length_append, List.length_take, levelUp_len, List.length_replicate]
 omega
theorem partU_zero (lv : Nat) (row : List Dg) : partU lv row 0 = List.replicate (row.length / 2) zeroD := by simp [partU]
theorem partU_full (lv : Nat) (row : List Dg) : partU lv row (row.length / 2) = levelUp lv row := by
 unfold partU;rw [Nat.sub_self, List.replicate_zero, List.append_nil, List.take_of_length_le (by rw [levelUp_len]; exact Nat.le_refl _)]
theorem partU_set (lv : Nat) (row : List Dg) (i : Nat) (h : i < row.length / 2) : (partU lv row i).set i (upD lv row i) = partU lv row (i + 1) := by
 unfold partU;have h1 : (levelUp lv row).take (i + 1) = (levelUp lv row).take i ++ [upD lv row i] := by
  rw [List.take_succ_eq_append_getElem (by rw [levelUp_len]; exact h)]
  congr 2
  simp [levelUp]
 have h5 : ((levelUp lv row).take i).length = i := by rw [List.length_take, levelUp_len]; exact Nat.min_eq_left (Nat.le_of_lt h)
 rw [h1, List.set_append, if_neg (by rw [h5]; omega), List.append_assoc]
 congr 1
 have h2 : row.length / 2 - i = row.length / 2 - (i + 1) + 1 := by omega
 have h3 : i - ((levelUp lv row).take i).length = 0 := by
  have : min i (row.length / 2) = i := Nat.min_eq_left (Nat.le_of_lt h)
  rw [List.length_take, levelUp_len, this, Nat.sub_self]
 rw [h2, List.replicate_succ, h3]
 rfl
theorem textsUp_take (lv : Nat) (row : List Dg) (i : Nat) (h : i < row.length / 2) : (textsUp lv row).take (i + 1) = (textsUp lv row).take i ++ [nodeT lv i (row.getD (2 * i) zeroD).1 (row.getD (2 * i + 1) zeroD).1] := by
 rw [List.take_succ_eq_append_getElem (by simp [textsUp]; exact h)]
 congr 2
 simp [textsUp]
/-! in memory -/
def slV (x : Nat × Nat) : Value := .slice (some ⟨x.1, 0, none⟩) x.2 x.2
def slE (x : Nat × Nat) : List Value := [slV x]
theorem slRT : RowTy Tryz.prog slV slE 1 24 359 353 :=
 ⟨Tryz.underlying359, ⟨.slice none 0 0, by kernel_rfl, rfl⟩, fun x => rfl, fun x => rfl, fun x v hv => by simp [slE] at hv; subst hv; rfl, by decide⟩
abbrev QRow := Nat × List Dg
def qS (Q : List QRow) : List (Nat × Nat) := Q.map fun x => (x.1, x.2.length)
structure TreeAt (w : World) (t b n : Nat) (lv : Value) (Q : List QRow) : Prop where
 blk : w.heap[t]? = some (.cells #[.pointer (some ⟨b, 0, none⟩), .int .i64 (n : Int), lv] 361 (0, 0))
 own : w.ownsRow 0 353 1 lv Q.length (cellsK slE (qS Q))
 rows : ∀ x ∈ Q, w.heap[x.1]? = some (.cells (rowA x.2) 38 (0, 0))
 ne : lv.ownBlock ≠ some t /\ ∀ x ∈ Q, x.1 ≠ t /\ lv.ownBlock ≠ some x.1
def treeS (t : Nat) (lv : Value) (Q : List QRow) : BSet := fun k => k = t \/ lv.ownBlock = some k \/ ∃ x ∈ Q, x.1 = k
theorem TreeAt.on {w : World} {t b n : Nat} {lv : Value} {Q : List QRow} (h : TreeAt w t b n lv Q) : On (treeS t lv Q) (fun w => TreeAt w t b n lv Q) w := by
 have ho := On.own h.own
 refine ⟨h, ?_, fun w' he => ⟨(he t (.inl rfl)).trans h.blk, ho.keep w' fun k hk => he k (.inr (.inl hk)), fun x hx => (he x.1 (.inr (.inr ⟨x, hx, rfl⟩))).trans (h.rows x hx), h.ne⟩⟩
 rintro k (rfl | hk | ⟨x, hx, rfl⟩)
 ·exact lt_blk h.blk
 ·exact ho.lt k hk
 ·exact lt_blk (h.rows x hx)
theorem TreeAt.push {w1 w2 : World} {t b n : Nat} {lv lv' : Value} {Q : List QRow} {q k m : Nat} {row : List Dg} (hm : row.length = m) (hk : Q.length = k) (h : TreeAt w1 t b n lv Q) (hq : w1.heap[q]? = some (.cells (rowA row) 38 (0, 0))) (hqt : q ≠ t /\ lv.ownBlock ≠ some q)
  (hO' : w2.ownsRow 0 353 1 lv' (k + 1) (cellsK slE (qS Q ++ [(q, m)]))) (hg : w1.grownBy w2 lv.ownBlock) (hat : lv'.ownBlock = lv.ownBlock \/ lv'.ownBlock = some w1.heap.size) :
  TreeAt (w2.setCell ⟨t, 2, none⟩ lv') t b n lv' (Q ++ [(q, row)]) /\ Chg (fun k => k = t \/ lv.ownBlock = some k) w1 (w2.setCell ⟨t, 2, none⟩ lv') := by
 have hO : w2.ownsRow 0 353 1 lv' (Q.length + 1) (cellsK slE (qS (Q ++ [(q, row)]))) := by
  subst hm hk
  unfold qS at hO' ⊢
  rw [List.map_append]; exact hO'
 have hlt := lt_blk h.blk
 have hc1 : Chg (fun k => lv.ownBlock = some k) w1 w2 := Chg.grown hg fun k hk _ => hk
 have hc2 : Chg (fun k => k = t) w2 (w2.setCell ⟨t, 2, none⟩ lv') := Chg.setCell w2 t 2 lv' rfl
 have hne : lv'.ownBlock ≠ some t := by
  rcases hat with e | e
  ·rw [e]; exact h.ne.1
  ·rw [e]; intro e2; have e3 := Option.some.inj e2; omega
 have hb2 := (hc1.block t hlt (fun e => h.ne.1 e)).trans h.blk
 have hrow : ∀ x ∈ Q ++ [(q, row)], w1.heap[x.1]? = some (.cells (rowA x.2) 38 (0, 0)) /\ x.1 ≠ t /\ lv.ownBlock ≠ some x.1 := fun x hx => by
  rcases List.mem_append.1 hx with hx | hx
  ·exact ⟨h.rows x hx, h.ne.2 x hx⟩
  ·obtain rfl : x = (q, row) := by simpa using hx
   exact ⟨hq, hqt⟩
 refine ⟨⟨block_at hb2 2 lv', ((On.own (by rw [List.length_append]; exact hO)).chg hc2 (fun k hk e => hne (by rw [hk, e]))).holds, fun x hx => ?_, hne, fun x hx => ⟨(hrow x hx).2.1, ?_⟩⟩, ?_⟩
 ·obtain ⟨h1, h2, h3⟩ := hrow x hx
  have h4 := (hc1.block x.1 (lt_blk h1) h3).trans h1
  exact (hc2.block x.1 (lt_blk h4) h2).trans h4
 ·obtain ⟨h1, h2, h3⟩ := hrow x hx
  rcases hat with e | e
  ·rw [e]; exact h3
  ·rw [e]; intro e2; have e3 := lt_blk h1; have e4 := Option.some.inj e2; omega
 ·exact (hc1.mono fun k _ hk => .inr hk).trans' (hc2.mono fun k _ hk => .inl hk)
theorem load_dig {w0 w : World} {rb : Nat} {row : List Dg} (hx : w0.heap[rb]? = some (.cells (rowA row) 38 (0, 0))) (_ : World) (hS : Fre.Kept w0 w) (i : Nat) (hi : i < row.length) : (loadVar 38 ⟨rb, i * 32, none⟩).run Tryz.prog w = .ok (.agg (bA (row.getD i zeroD).1)) w := by
 have hb := (hS.block rb (lt_blk hx)).trans hx
 have h := run_loadVar_mid (P := Tryz.prog) w rb (i * 32) 38 (dgE (row.getD i zeroD)) _ (fun j v hv => by
  have hj : j < 32 := by
   have := (List.getElem?_eq_some_iff.1 hv).1
   rw [dgE_len] at this; exact this
  rw [cells_at hb (i * 32 + j), rowA_get row i j hi hj, <- hv]
  congr 2
  rw [List.getD_eq_getElem?_getD, List.getElem?_eq_getElem hi]; rfl) Tryz.underlying38 rfl (by rw [info32, dgE_len])
 rw [h];simp [dgE]
theorem range_dig {w : World} {rb : Nat} {row : List Dg} (hx : w.heap[rb]? = some (.cells (rowA row) 38 (0, 0))) (i : Nat) (hi : i < row.length) : w.rangeAt rb (i * 32) (dgE (row.getD i zeroD)) := fun j v hv => by
 have hj : j < 32 := by
  have := (List.getElem?_eq_some_iff.1 hv).1
  rw [dgE_len] at this; exact this
 rw [cells_at hx (i * 32 + j), rowA_get row i j hi hj, <- hv]
 congr 2
 rw [List.getD_eq_getElem?_getD, List.getElem?_eq_getElem hi]; rfl
theorem there_row {w : World} {nb i : Nat} {L : List Dg} (h : w.heap[nb]? = some (.cells (rowA L) 38 (0, 0))) (hi : i < L.length) (d : Dg) : w.there nb (i * 32) (bA d.1).size := fun j hj => by
 rw [bA_size, d.2.1] at hj
 refine ⟨?_, free_at h _⟩
 rw [cells_at h (i * 32 + j), rowA_get L i j hi hj, List.getElem?_eq_getElem (by rw [dgE_len]; exact hj)]; rfl
theorem dgE_arr (x : Dg) : (dgE x).toArray = bA x.1 := by simp [dgE]
def opsTrC : {o : Array Oper // some o = (Tryz.f263.body.bind (Fre.findR 14))} := ⟨_, rfl⟩
theorem regionTrC {u1 u2 u3 u4 u5 u10 u11 u12 u13 u14 u15 u16 u17 u18 u19 u20 u21 u22 u23 u24 u25 u26 u27 u28 u29 u30 u31 u32 u33 u34 u35 u36 u37 u38 u39 u40 u41 u42 u43 u44 u45 u46 u47 u48 u49 u50 u51 u52 u53 u54 u55 u56 u57 u58 u59 u60 u61 u62 u63 u64 u65 u66 u67 u68 u69 u70 u71 u72 u73 u74 u75 u76 u77 u78 u79 u80 u81 u82 u83 u84 u85 u86 u87 u88 u89 u90 u91 u92 : Value} {b tb mb : Nat} {cl : Option Nat} {E : List BEnt} {TS : List (List Nat)} (t rb nb n k ix m la lc rl p2 p3 : Nat) (row cur : List Dg) (d xd yd : Dg) (w0 : World) (hBk : Bk w0 b tb mb cl E TS)
  (h0 : w0.heap[t]? = some (.cells #[.pointer (some ⟨b, 0, none⟩), .int .i64 (n : Int), .slice (some ⟨la, 0, none⟩) k lc] 361 (0, 0))) (hx : w0.heap[rb]? = some (.cells (rowA row) 38 (0, 0)))
  (hnb : w0.heap[nb]? = some (.cells (rowA cur) 38 (0, 0))) (hrl : row.length = rl) (hm : cur.length = m) (him : ix < m) (hp2 : p2 = 2 * ix) (hp3 : p3 = 2 * ix + 1) (hix : p3 < rl) (hxd : row.getD p2 zeroD = xd) (hyd : row.getD p3 zeroD = yd) (hr4 : rl <= 4096) (hk : k <= 4096) (hd : d.1 = sumN (nodeT k ix xd.1 yd.1))
  (hne : nb ≠ t /\ nb ≠ rb) (hnB : ∀ q, q = t \/ q = rb \/ q = nb -> ¬ bkS b tb mb E q) {QQ : Exit -> Act -> World -> Prop}
  (hQ : ∀ w1 w2 w' cl' E', Below w0.heap.size w0 w1 -> Bk w2 b tb mb cl' E' (TS ++ [nodeT k ix xd.1 yd.1]) -> Chg (fun q => q = b \/ q = mb) w1 w2 -> (∀ q, bkS b tb mb E' q -> bkS b tb mb E q \/ w1.heap.size <= q) -> w' = w2.setCells nb (ix * 32) (dgE d) -> QQ .normal ⟨#[.pointer (some ⟨b, 0, none⟩), u1, u2, u3, u4, u5, .pointer (some ⟨t, 0, none⟩), .slice (some ⟨rb, 0, none⟩) rl rl, .slice (some ⟨nb, 0, none⟩) m m, .int .i64 (ix : Int), u10, u11, u12, u13, u14, u15, u16, u17, u18, u19, u20, u21, u22, u23, u24, u25, u26, u27, u28, u29, u30, u31, u32, u33, u34, u35, u36, u37, u38, u39, u40, u41, u42, u43, u44, u45, u46, u47, u48, u49, u50, u51, u52, u53, u54, u55, u56, .slice (some ⟨nb, 0, none⟩) m m, .int .i64 (ix : Int), .pointer (some ⟨b, 0, none⟩), .pointer (some ⟨t, 0, none⟩), .pointer (some ⟨t, 0, none⟩), .pointer (some ⟨t, 2, none⟩), .slice (some ⟨la, 0, none⟩) k lc, .int .i64 (k : Int), .int .i64 (ix : Int), .agg #[.int .i64 (k : Int), .int .i64 (ix : Int)], .slice (some ⟨rb, 0, none⟩) rl rl, .int .i64 (ix : Int), .int .i64 ((p2 : Nat) : Int), .pointer (some ⟨rb, p2 * 32, none⟩), .agg (bA xd.1), .slice (some ⟨rb, 0, none⟩) rl rl, .int .i64 (ix : Int), .int .i64 ((p2 : Nat) : Int), .int .i64 ((p3 : Nat) : Int), .pointer (some ⟨rb, p3 * 32, none⟩), .agg (bA yd.1), .agg (bA d.1), .pointer (some ⟨nb, ix * 32, none⟩), u80, u81, u82, u83, u84, u85, u86, u87, u88, u89, u90, u91, u92], []⟩ w') :
  (Code.region 14 opsTrC.1 true).wp Tryz.prog QQ ⟨#[.pointer (some ⟨b, 0, none⟩), u1, u2, u3, u4, u5, .pointer (some ⟨t, 0, none⟩), .slice (some ⟨rb, 0, none⟩) rl rl, .slice (some ⟨nb, 0, none⟩) m m, .int .i64 (ix : Int), u10, u11, u12, u13, u14, u15, u16, u17, u18, u19, u20, u21, u22, u23, u24, u25, u26, u27, u28, u29, u30, u31, u32, u33, u34, u35, u36, u37, u38, u39, u40, u41, u42, u43, u44, u45, u46, u47, u48, u49, u50, u51, u52, u53, u54, u55, u56, u57, u58, u59, u60, u61, u62, u63, u64, u65, u66, u67, u68, u69, u70, u71, u72, u73, u74, u75, u76, u77, u78, u79, u80, u81, u82, u83, u84, u85, u86, u87, u88, u89, u90, u91, u92], []⟩ w0 := by
 have e1 : IntKind.i64.wrap (2 * (ix : Int)) = ((p2 : Nat) : Int) := by rw [IntWalk.i64_in _ (by omega)]; omega
 have e2 : IntKind.i64.wrap (((p2 : Nat) : Int) + 1) = ((p3 : Nat) : Int) := by rw [IntWalk.i64_in _ (by omega)]; omega
 have l1 : ((p2 : Nat) : Int) < (rl : Int) := by omega
 have l2 : ((p3 : Nat) : Int) < (rl : Int) := by omega
 have l3 : (ix : Int) < (m : Int) := by omega
 have g1 : ¬ ((p2 : Nat) : Int) < 0 := by omega
 have g2 : ¬ ((p3 : Nat) : Int) < 0 := by omega
 have g3 : ¬ (ix : Int) < 0 := by omega
 subst hrl;have HP2 := Lib.hid (And.intro hp2 hp3)
 have HLT : Hid (p2 < row.length /\ p3 < row.length) := ⟨by omega, hix⟩
 have HXY := Lib.hid (And.intro hxd hyd)
 clear hp2 hp3 hxd hyd;have hS : (fun w' : World => w'.heap[t]? = some (.cells #[.pointer (some ⟨b, 0, none⟩), .int .i64 (n : Int), .slice (some ⟨la, 0, none⟩) k lc] 361 (0, 0)) /\ w'.heap[rb]? = some (.cells (rowA row) 38 (0, 0))) w0.drew := ⟨h0, hx⟩
 have hSD : Below w0.heap.size w0 w0.drew := (Below.refl _ _).drew
 have HBK : Hid (Bk w0.drew b tb mb cl E TS) := Lib.hid (hBk.on.below hSD).holds
 have HQ := Lib.hid hQ;have HNB : Hid (w0.drew.heap[nb]? = some (.cells (rowA cur) 38 (0, 0))) := hnb
 have HD := Lib.hid hd;have HDD := Lib.hid hSD;clear hBk h0 hx hnb hQ hd hSD;refine Code.wp_mono (Q := OnlyG fun a w => QQ .normal a w) (fun x a w h => by cases x <;> first | exact h | exact h.elim) ?_
 unfold opsTrC;refine wp_region_held_drew (S := fun w' => w'.heap[t]? = some (.cells #[.pointer (some ⟨b, 0, none⟩), .int .i64 (n : Int), .slice (some ⟨la, 0, none⟩) k lc] 361 (0, 0)) /\ w'.heap[rb]? = some (.cells (rowA row) 38 (0, 0))) (by kernel_rfl) hS ?_
 intro _;generalize w0.drew = w1 at *
 change wpAnyH _ _ _ _ _ 24 #[false, false, false, false, false, false, false, false, false, false, false, false, false, false, false, false, false, false, false, false, false, false, false, false] _ _
 refine wpAnyH_take (i := 0) (v := ?_) rfl (by kernel_rfl) (by kernel_rfl) (by kernel_rfl) (fun _ _ _ h => h) (Or.inl ⟨by rfl, ?hy⟩) hS ?_
 case hy => intro w' hSw; go_simp; try with_reducible rfl
 simp only [gA, gS, gZ, Act.put, sA, sZ, sS]
 refine wpAnyH_take (i := 1) (v := ?_) rfl (by kernel_rfl) (by kernel_rfl) (by kernel_rfl) (fun _ _ _ h => h) (Or.inl ⟨by rfl, ?hy⟩) hS ?_
 case hy => intro w' hSw; go_simp; try with_reducible rfl
 simp only [gA, gS, gZ, Act.put, sA, sZ, sS]
 refine wpAnyH_take (i := 2) (v := ?_) rfl (by kernel_rfl) (by kernel_rfl) (by kernel_rfl) (fun _ _ _ h => h) (Or.inl ⟨by rfl, ?hy⟩) hS ?_
 case hy => intro w' hSw; go_simp; try with_reducible rfl
 simp only [gA, gS, gZ, Act.put, sA, sZ, sS]
 refine wpAnyH_take (i := 3) (v := ?_) rfl (by kernel_rfl) (by kernel_rfl) (by kernel_rfl) (fun _ _ _ h => h) (Or.inl ⟨by rfl, ?hy⟩) hS ?_
 case hy => intro w' hSw; go_simp; try with_reducible rfl
 simp only [gA, gS, gZ, Act.put, sA, sZ, sS]
 refine wpAnyH_take (i := 4) (v := ?_) rfl (by kernel_rfl) (by kernel_rfl) (by kernel_rfl) (fun _ _ _ h => h) (Or.inl ⟨by rfl, ?hy⟩) hS ?_
 case hy => intro w' hSw; go_simp; try with_reducible rfl
 simp only [gA, gS, gZ, Act.put, sA, sZ, sS]
 refine wpAnyH_take (i := 5) (v := ?_) rfl (by kernel_rfl) (by kernel_rfl) (by kernel_rfl) (fun _ _ _ h => h) (Or.inl ⟨by rfl, ?hy⟩) hS ?_
 case hy => intro w' hSw; go_simp; try with_reducible rfl
 simp only [gA, gS, gZ, Act.put, sA, sZ, sS]
 refine wpAnyH_take (i := 6) (v := ?_) rfl (by kernel_rfl) (by kernel_rfl) (by kernel_rfl) (fun _ _ _ h => h) (Or.inl ⟨by rfl, ?hy⟩) hS ?_
 case hy => intro w' hSw; have c0 : w'.cell? ⟨t, 2, none⟩ = some (.slice (some ⟨la, 0, none⟩) k lc) := (cells_at hSw.1 2).trans rfl; go_simp; try with_reducible rfl
 simp only [gA, gS, gZ, Act.put, sA, sZ, sS]
 refine wpAnyH_take (i := 7) (v := ?_) rfl (by kernel_rfl) (by kernel_rfl) (by kernel_rfl) (fun _ _ _ h => h) (Or.inl ⟨by rfl, ?hy⟩) hS ?_
 case hy => intro w' hSw; go_simp; try with_reducible rfl
 simp only [gA, gS, gZ, Act.put, sA, sZ, sS]
 refine wpAnyH_take (i := 8) (v := ?_) rfl (by kernel_rfl) (by kernel_rfl) (by kernel_rfl) (fun _ _ _ h => h) (Or.inl ⟨by rfl, ?hy⟩) hS ?_
 case hy => intro w' hSw; go_simp; try with_reducible rfl
 simp only [gA, gS, gZ, Act.put, sA, sZ, sS]
 refine wpAnyH_take (i := 9) (v := ?_) rfl (by kernel_rfl) (by kernel_rfl) (by kernel_rfl) (fun _ _ _ h => h) (Or.inl ⟨by rfl, ?hy⟩) hS ?_
 case hy => intro w' hSw; go_simp; try with_reducible rfl
 simp only [gA, gS, gZ, Act.put, sA, sZ, sS]
 refine wpAnyH_take (i := 10) (v := ?_) rfl (by kernel_rfl) (by kernel_rfl) (by kernel_rfl) (fun _ _ _ h => h) (Or.inl ⟨by rfl, ?hy⟩) hS ?_
 case hy => intro w' hSw; go_simp; try with_reducible rfl
 simp only [gA, gS, gZ, Act.put, sA, sZ, sS]
 refine wpAnyH_take (i := 11) (v := ?_) rfl (by kernel_rfl) (by kernel_rfl) (by kernel_rfl) (fun _ _ _ h => h) (Or.inl ⟨by rfl, ?hy⟩) hS ?_
 case hy => intro w' hSw; go_simp; try with_reducible rfl
 simp only [gA, gS, gZ, Act.put, sA, sZ, sS]
 refine wpAnyH_take (i := 12) (v := ?_) rfl (by kernel_rfl) (by kernel_rfl) (by kernel_rfl) (fun _ _ _ h => h) (Or.inl ⟨by rfl, ?hy⟩) hS ?_
 case hy => intro w' hSw; go_simp; try with_reducible rfl
 simp only [gA, gS, gZ, Act.put, sA, sZ, sS]
 refine wpAnyH_take (i := 13) (v := ?_) rfl (by kernel_rfl) (by kernel_rfl) (by kernel_rfl) (fun _ _ _ h => h) (Or.inl ⟨by rfl, ?hy⟩) hS ?_
 case hy => intro w' hSw; go_simp; try with_reducible rfl
 simp only [gA, gS, gZ, Act.put, sA, sZ, sS]
 refine wpAnyH_take (i := 14) rfl (by kernel_rfl) (by kernel_rfl) (by kernel_rfl) (fun _ _ _ h => h) (yieldsIf_load_mid (by rfl) _ _ rfl rb ((p2) * 32) rfl (dgE xd) _ (fun w' h => (HXY.out.1 ▸ range_dig h.2 (p2) HLT.out.1)) Tryz.underlying38 rfl (by rw [info32, dgE_len])) hS ?_
 simp only [gA, gS, gZ, Act.put, sA, sZ, sS]
 refine wpAnyH_take (i := 15) (v := ?_) rfl (by kernel_rfl) (by kernel_rfl) (by kernel_rfl) (fun _ _ _ h => h) (Or.inl ⟨by rfl, ?hy⟩) hS ?_
 case hy => intro w' hSw; go_simp; try with_reducible rfl
 simp only [gA, gS, gZ, Act.put, sA, sZ, sS]
 refine wpAnyH_take (i := 16) (v := ?_) rfl (by kernel_rfl) (by kernel_rfl) (by kernel_rfl) (fun _ _ _ h => h) (Or.inl ⟨by rfl, ?hy⟩) hS ?_
 case hy => intro w' hSw; go_simp; try with_reducible rfl
 simp only [gA, gS, gZ, Act.put, sA, sZ, sS]
 refine wpAnyH_take (i := 17) (v := ?_) rfl (by kernel_rfl) (by kernel_rfl) (by kernel_rfl) (fun _ _ _ h => h) (Or.inl ⟨by rfl, ?hy⟩) hS ?_
 case hy => intro w' hSw; go_simp; try with_reducible rfl
 simp only [gA, gS, gZ, Act.put, sA, sZ, sS]
 refine wpAnyH_take (i := 18) (v := ?_) rfl (by kernel_rfl) (by kernel_rfl) (by kernel_rfl) (fun _ _ _ h => h) (Or.inl ⟨by rfl, ?hy⟩) hS ?_
 case hy => intro w' hSw; go_simp; try with_reducible rfl
 simp only [gA, gS, gZ, Act.put, sA, sZ, sS]
 refine wpAnyH_take (i := 19) (v := ?_) rfl (by kernel_rfl) (by kernel_rfl) (by kernel_rfl) (fun _ _ _ h => h) (Or.inl ⟨by rfl, ?hy⟩) hS ?_
 case hy => intro w' hSw; go_simp; try with_reducible rfl
 simp only [gA, gS, gZ, Act.put, sA, sZ, sS]
 refine wpAnyH_take (i := 20) rfl (by kernel_rfl) (by kernel_rfl) (by kernel_rfl) (fun _ _ _ h => h) (yieldsIf_load_mid (by rfl) _ _ rfl rb ((p3) * 32) rfl (dgE yd) _ (fun w' h => (HXY.out.2 ▸ range_dig h.2 (p3) HLT.out.2)) Tryz.underlying38 rfl (by rw [info32, dgE_len])) hS ?_
 simp only [gA, gS, gZ, Act.put, sA, sZ, sS]
 simp only [dgE_arr]
 refine wpAnyH_ready (rs := [21]) (by kernel_rfl) (by simp) ?_
 refine AllReadyH.cons rfl (fun K hK => ?_) AllReadyH.nil
 rw [if_pos (by rfl)]
 go_simp
 have hnode := treeNode_c k ix (by omega) (by have := HP2.out.2; omega) xd.1 yd.1 xd.2 yd.2 w1 HBK.out
 rw [<- HD.out] at hnode;refine hnode.mono ?_
 rintro r w2 ⟨rfl, cl', E', hb2, hc2, hs2⟩
 have hnb2 : ∀ q, q = t \/ q = rb \/ q = nb -> w2.heap[q]? = w1.heap[q]? := fun q hq => hc2.block q (by rcases hq with rfl | rfl | rfl <;> first | exact lt_blk hS.1 | exact lt_blk hS.2 | exact lt_blk HNB.out) (fun e => hnB q hq (by rcases e with rfl | rfl <;> first | exact .inl rfl | exact .inr (.inr (.inl rfl))))
 have hS2 := And.intro ((hnb2 t (.inl rfl)).trans hS.1) ((hnb2 rb (.inr (.inl rfl))).trans hS.2)
 have HN2 := Lib.hid ((hnb2 nb (.inr (.inr rfl))).trans HNB.out)
 have HALL := Lib.hid (And.intro hb2 (And.intro hc2 hs2))
 clear hb2 hc2 hs2 hnb2 hnode;refine hK.out _ _ hS2 (fun hS2 => ?_)
 clear hK K;simp only [gA, gS, gZ, Act.put, sA, sZ, sS]
 refine wpAnyH_take (i := 22) (v := ?_) rfl (by kernel_rfl) (by kernel_rfl) (by kernel_rfl) (fun _ _ _ h => h) (Or.inl ⟨by rfl, ?hy⟩) hS2 ?_
 case hy => intro w' hSw; go_simp; try with_reducible rfl
 simp only [gA, gS, gZ, Act.put, sA, sZ, sS]
 refine wpAnyH_ready (rs := [23]) (by kernel_rfl) (by simp) ?_
 refine AllReadyH.cons rfl (fun K hK => ?_) AllReadyH.nil
 rw [if_pos (by rfl)]
 have hth : w2.there nb (ix * 32) (bA d.1).size := there_row HN2.out (by omega) d
 refine wp_store_mid 38 (.tmp 79) (.tmp 78) rfl nb (ix * 32) (bA d.1) rfl rfl hth (by rw [info32, bA_size]; exact congrArg some d.2.1.symm) (bA_oneS _) ?_
 have hcs : Chg (· = nb) w2 (w2.setCells nb (ix * 32) (bA d.1).toList) := Chg.setCells (S := (· = nb)) nb rfl _ _ _
 have hS3 := And.intro ((hcs.block t (lt_blk hS2.1) (fun e => hne.1 e.symm)).trans hS2.1) ((hcs.block rb (lt_blk hS2.2) (fun e => hne.2 e.symm)).trans hS2.2)
 refine hK.out _ _ hS3 (fun hS3 => ?_)
 clear hK K;simp only [gA, gS, gZ, Act.put, sA, sZ, sS]
 change wpAnyH _ _ _ _ _ 0 _ _ _
 refine wpAnyH_done (by kernel_rfl) ?_ _
 exact HQ.out w1 w2 _ cl' E' HDD.out HALL.out.1 HALL.out.2.1 HALL.out.2.2 rfl
def TreeTo (w w' : World) (b tb mb : Nat) (E : List BEnt) (TS : List (List Nat)) (l : List Dg) (n t : Nat) : Prop :=
 ∃ lv Q cl' E', TreeAt w' t b n lv Q /\ Q.map (·.2) = (List.range (depthN n + 1)).map (rowAt (padD l)) /\ Bk w' b tb mb cl' E' (TS ++ treeTexts l) /\ Chg (fun k => k = b \/ k = mb) w w' /\ (∀ k, bkS b tb mb E' k -> bkS b tb mb E k \/ w.heap.size <= k) /\ ∀ k, treeS t lv Q k -> w.heap.size <= k /\ ¬ bkS b tb mb E' k
theorem treeNew_c {b tb mb : Nat} {cl : Option Nat} {E : List BEnt} {TS : List (List Nat)} (l : List Dg) (n : Nat) (hl : l.length = n) (h1 : 1 <= n) (hn : n <= 1024) (g o cap : Nat) (w : World) (h : Bk w b tb mb cl E TS) (hR : RowK dgE 32 w (some ⟨g, o, none⟩) l) :
  Calls Tryz.prog 263 #[.pointer (some ⟨b, 0, none⟩), .slice (some ⟨g, o, none⟩) n cap] w fun r w' => ∃ t, r = .returned (.tuple #[.pointer (some ⟨t, 0, none⟩), .int .i64 0]) /\ TreeTo w w' b tb mb E TS l n t := by
 obtain ⟨d, hd⟩ : ∃ d, d = depthN n := ⟨_, rfl⟩
 obtain ⟨p, hp⟩ : ∃ p, p = 2 ^ d := ⟨_, rfl⟩
 have hsp := depthN_spec n hn
 rw [<- hd] at hsp;have hp1 : n <= p := hp ▸ hsp.1
 have hp2 : p <= 1024 := by rw [hp]; exact Nat.le_trans (Nat.pow_le_pow_right (by decide) hsp.2.2) (by decide)
 have hsw := shl_wrap d hsp.2.2
 rw [<- hp] at hsw;have hsw2 : wrap64 ((2 : Int) ^ min d 64) = (p : Int) := by rw [Nat.min_eq_left (by omega)]; exact hsw
 have hge : ¬ (p : Int) < 0 := by omega
 have HH := Lib.hid h;have HR := Lib.hid hR;have HL := Lib.hid hl;have HD := Lib.hid hd;have HP := Lib.hid hp;have HDC := Lib.hid (fun w => depth_c n hn w)
 rw [<- hd] at HDC;have n0 : ¬ (n : Int) = 0 := by omega
 have n1 : ¬ (n : Int) > 1024 := by omega
 have n2 : ¬ (1024 : Int) < (n : Int) := by omega
 have hd10 : d <= 10 := hsp.2.2
 clear h hR hl hd hp hsp
 go_enter Tryz.func263, Tryz.ntmps263
 go_upto_region 6 with fail
 generalize hW1 : World.alloc w _ = w1
 have hb1 : Below w.heap.size w w1 := by rw [<- hW1]; exact below_al (Below.refl _ w) _
 have ht1 : w1.heap[w.heap.size]? = some (.cells #[.pointer (some ⟨b, 0, none⟩), .int .i64 (n : Int), .slice none 0 0] 361 (0, 0)) := by rw [<- hW1]; exact World.alloc_heap_new _ _
 clear hW1;obtain ⟨w2, hw2⟩ : ∃ w2, w2 = w1.alloc (.cells (rowA (List.replicate p zeroD)) 38) := ⟨_, rfl⟩
 have hb2 : Below w.heap.size w w2 := by rw [hw2]; exact below_al hb1 _
 have hr2 : w2.heap[w1.heap.size]? = some (.cells (rowA (List.replicate p zeroD)) 38 (0, 0)) := by rw [hw2]; exact World.alloc_heap_new _ _
 have ht2 := (heap_old' w1 (.cells (rowA (List.replicate p zeroD)) 38) _ (lt_blk ht1)).trans ht1
 rw [<- hw2] at ht2;have hmk := mk_digs p (by omega) w1
 rw [<- hw2] at hmk;have hcp := copy_digs (w := w2) 3 w1.heap.size p n cap ⟨g, o, none⟩ rfl l HL.out hp1 hr2 (HR.out.up hb2 (Nat.le_refl _))
 obtain ⟨w3, hw3⟩ : ∃ w3, w3 = w2.setRow w1.heap.size (rowA (l ++ List.replicate (p - n) zeroD)) := ⟨_, rfl⟩
 rw [<- hw3] at hcp;have hc3 : Chg (· = w1.heap.size) w2 w3 := by rw [hw3]; exact Chg.setRow _ _ _ rfl
 have hr3 : w3.heap[w1.heap.size]? = some (.cells (rowA (l ++ List.replicate (p - n) zeroD)) 38 (0, 0)) := by rw [hw3]; exact setRow_heap _ _ _ _ _ _ hr2
 have hb3 : Below w.heap.size w w3 := by rw [hw3]; exact below_setRow hb2 hb1.size _
 have hlt1 := lt_blk ht1
 have ht3 := (hc3.block _ (lt_blk ht2) (by omega)).trans ht2
 have c32 : w3.cell? ⟨w.heap.size, 2, none⟩ = some (.slice none 0 0) := (cells_at ht3 2).trans rfl
 have f32 := free_at ht3 2
 have HB3 := Lib.hid hb3;have HR3 := Lib.hid hr3;have HT3 := Lib.hid ht3;clear hb1 ht1 hb2 hr2 ht2 hb3 hr3 ht3 hc3 hw2 hw3
 go_upto_region 7 with (first | (refine (HDC.out _).mono ?_; rintro r wq ⟨rfl, rfl⟩) | fail)
 go_upto_region 8 with fail
 clear hmk hcp;obtain ⟨w4, hw4⟩ : ∃ w4, w4 = w3.alloc (.cells (slE (w1.heap.size, p)).toArray 353) := ⟨_, rfl⟩
 have hb4 : Below w3.heap.size w3 w4 := by rw [hw4]; exact (Below.refl _ _).alloc (Nat.le_refl _) _
 have hx4 : w4.heap[w3.heap.size]? = some (.cells (slE (w1.heap.size, p)).toArray 353 (0, 0)) := by rw [hw4]; exact World.alloc_heap_new _ _
 have HF4 : Hid (RowK slE 1 w4 (some ⟨w3.heap.size, 0, none⟩) [(w1.heap.size, p)]) := Lib.hid (rowK_one (enc := slE) (p := (w1.heap.size, p)) (fun _ => rfl) hx4)
 have HT4 : Hid (TreeAt w4 w.heap.size b n (.slice none 0 0) []) := Lib.hid ⟨(hb4.block _ (lt_blk HT3.out)).trans HT3.out, ⟨rfl, .inl ⟨rfl, rfl⟩⟩, fun x hx => (by cases hx), nofun, fun x hx => (by cases hx)⟩
 have HR4 : Hid (w4.heap[w1.heap.size]? = some (.cells (rowA (l ++ List.replicate (p - n) zeroD)) 38 (0, 0))) := (hb4.block _ (lt_blk HR3.out)).trans HR3.out
 have HB4 : Hid (Below w.heap.size w w4) := HB3.out.trans (hb4.mono HB3.out.size)
 have HRL : Hid ((l ++ List.replicate (p - n) zeroD).length = p) := Lib.hid (by rw [List.length_append, List.length_replicate, HL.out]; omega)
 clear hb4 hx4;go_wp2_with (first
  | (refine slRT.wpList_build (p := (w1.heap.size, p)) (by decide) rfl (.tmp 40) rfl rfl ?_; rw [<- hw4]; clear hw4)
  | (refine slRT.wpList_append_at rfl (.tmp 39) (.tmp 41) rfl (base := 0) (v := .slice none 0 0) (n := 0) (L := []) rfl HT4.out.own (a := some ⟨w3.heap.size, 0, none⟩) (m := 1) (cap := 1) (M := [(w1.heap.size, p)]) rfl rfl HF4.out (fun h => by cases h) (by rintro _ ⟨⟩; rfl) (by decide) (by decide) (Nat.zero_le _) ?_; intro v5 w5 hown5 hgr5 hnil5 hat5; rw [Nat.zero_add] at hown5; obtain ⟨a5, c5, rfl⟩ := own_sl hown5; have hpush := TreeAt.push (q := w1.heap.size) (k := 0) (m := p) (row := l ++ List.replicate (p - n) zeroD) HRL.out rfl HT4.out HR4.out ⟨Nat.ne_of_gt hlt1, nofun⟩ hown5 hgr5 hat5; have c52 : w5.cell? ⟨w.heap.size, 2, none⟩ = some (.slice none 0 0) := (cells_at ((hgr5.block _ (lt_blk HT4.out.blk) nofun).trans HT4.out.blk) 2).trans rfl; have f52 := free_at ((hgr5.block _ (lt_blk HT4.out.blk) nofun).trans HT4.out.blk) 2; have HPU := Lib.hid hpush; have HAT := Lib.hid hat5; clear hown5 hgr5 hnil5 hat5 hpush c32 f32)
  | fail)
 generalize hW6 : World.setCell w5 _ _ = w6 at *
 clear hW6;obtain ⟨r0, hr0⟩ : ∃ r0, r0 = l ++ List.replicate (p - n) zeroD := ⟨_, rfl⟩
 rw [<- hr0] at HPU HR4 HRL;have HR0 : Hid (r0 = padD l) := Lib.hid (by rw [hr0]; unfold padD; rw [HL.out, <- HD.out, HP.out])
 have hkey : ∀ k, treeS w.heap.size (.slice a5 1 c5) [(w1.heap.size, r0)] k -> w.heap.size <= k := fun k hk => by
  rcases hk with rfl | hk | ⟨x, hx, rfl⟩
  ·exact Nat.le_refl _
  ·rcases HAT.out with e | e
   ·rw [e] at hk; cases hk
   ·rw [e] at hk; have := Option.some.inj hk; have := HB4.out.size; omega
  ·obtain rfl : x = (w1.heap.size, r0) := by simpa using hx
   exact Nat.le_of_lt hlt1
 have hc6 : Chg (fun k => k = b \/ k = mb) w w6 := (Chg.of_below HB4.out).trans HPU.out.2 (fun k hk => .inr (by
  rcases hk with rfl | hk
  ·exact Nat.le_refl _
  ·cases hk))
 have hbk6 : Bk w6 b tb mb cl E TS := (((HH.out.on.below HB4.out)).chg HPU.out.2 (fun k hk e => by
  have := HH.out.on.lt k hk
  rcases e with rfl | e
  ·omega
  ·cases e)).holds
 have HT6 := Lib.hid HPU.out.1;have HC6 := Lib.hid hc6;have HK6 := Lib.hid hbk6;have HKEY := Lib.hid hkey;have HLTB := Lib.hid HH.out.on.lt;clear hkey hc6 hbk6 HPU HAT hr0
 go_loopw [7] (fun v7 wr => ∃ j rb m lv Q cl' E', j <= d /\ v7 = .slice (some ⟨rb, 0, none⟩) m m /\ Hid (m = 2 ^ (d - j)) /\ Hid (TreeAt wr w.heap.size b n lv Q) /\ Hid (Q.length = j + 1 /\ Q.map (·.2) = (List.range (j + 1)).map (rowAt r0) /\ (rb, rowAt r0 j) ∈ Q) /\
   Hid (Bk wr b tb mb cl' E' (TS ++ textsAt r0 j)) /\ Hid (Chg (fun k => k = b \/ k = mb) w wr) /\ Hid (∀ k, bkS b tb mb E' k -> bkS b tb mb E k \/ w.heap.size <= k) /\ Hid (∀ k, treeS w.heap.size lv Q k -> w.heap.size <= k /\ ¬ bkS b tb mb E' k)) (fun v7 _ => lenV v7)
 case atStart =>
  refine ⟨0, w1.heap.size, p, .slice a5 1 c5, [(w1.heap.size, r0)], cl, E, Nat.zero_le _, rfl, HP.out, HT6.out, ⟨rfl, rfl, List.mem_singleton.2 rfl⟩, ?_, HC6.out, Lib.hid fun k hk => .inl hk, Lib.hid fun k hk => ⟨HKEY.out k hk, fun hb => by have h1 := HKEY.out k hk; have h2 := HLTB.out k hb; omega⟩⟩
  show Bk w6 b tb mb cl E (TS ++ [])
  rw [List.append_nil]; exact HK6.out
 case round =>
  obtain ⟨j, rb, m, lv, Q, cl0, E0, hj, rfl, hm, hT, hQ, hK, hC, hG, hN⟩ := hrel
  generalize wr = wO at *
  have hsz := hT.out.on.lt
  have hrl := rowAt_len r0 d (by rw [HRL.out, HP.out]) j hj
  have hrb := hT.out.rows _ hQ.out.2.2
  by_cases hlt : j < d
  ·obtain ⟨m2, hm2⟩ : ∃ m2, m2 = 2 ^ (d - (j + 1)) := ⟨_, rfl⟩
   have hmm : m = 2 * m2 := by rw [hm.out, hm2, show d - j = d - (j + 1) + 1 by omega, Nat.pow_succ]; omega
   have hm2p : 1 <= m2 := by rw [hm2]; exact Nat.one_le_two_pow
   have hmb : m <= 1024 := by
    have h1 : m <= p := by rw [hm.out, HP.out]; exact Nat.pow_le_pow_right (by decide) (by omega)
    omega
   obtain ⟨row, hrow⟩ : ∃ row, row = rowAt r0 j := ⟨_, rfl⟩
   rw [<- hrow] at hrl hrb;have hrlm : row.length = m := by rw [hrl, hm.out]
   have d2 : (1 : Int) < (m : Int) := by omega
   have hm2b : m2 <= 65536 := by omega
   have q1 : (m : Int) / 2 = (m2 : Int) := by omega
   obtain ⟨wA, hwA⟩ : ∃ wA, wA = wO.alloc (.cells (rowA (List.replicate m2 zeroD)) 38) := ⟨_, rfl⟩
   have hbA : Below wO.heap.size wO wA := by rw [hwA]; exact below_al (Below.refl _ _) _
   have hnA : wA.heap[wO.heap.size]? = some (.cells (rowA (List.replicate m2 zeroD)) 38 (0, 0)) := by rw [hwA]; exact World.alloc_heap_new _ _
   have hmkA := mk_digs m2 hm2b wO
   rw [<- hwA] at hmkA;have hTA := (hT.out.on.below hbA).holds
   have hKA := (hK.out.on.below hbA).holds
   have hrA := (hbA.block _ (lt_blk hrb)).trans hrb
   have hltO := Lib.hid hsz
   have hltK := Lib.hid hK.out.on.lt
   have HTA := Lib.hid hTA;have HKA := Lib.hid hKA;have HRA := Lib.hid hrA;have HNA := Lib.hid hnA;have HBA := Lib.hid hbA;have HRLM := Lib.hid hrlm;have HMM := Lib.hid hmm;have HROW := Lib.hid hrow;have HHM2 := Lib.hid hm2;obtain ⟨la, lc, rfl, _, _⟩ := own_pos hT.out.own (by rw [hQ.out.1]; exact Nat.succ_pos _)
   obtain ⟨kq, hkq⟩ : ∃ kq, kq = Q.length := ⟨_, rfl⟩
   rw [<- hkq] at hN hltO HTA;have HQ1 : Hid (kq = j + 1) := hkq.trans hQ.out.1
   have HKQ := Lib.hid hkq;clear hkq hmm hwA hbA hnA hTA hKA hrA hrb hrl hrlm hrow hm2 hsz hT hK hm;have hrr : row.length / 2 = m2 := by rw [HRLM.out, HMM.out]; omega
   have HRR := Lib.hid hrr;have hnlt : ∀ k, treeS w.heap.size (.slice (some ⟨la, 0, none⟩) kq lc) Q k -> k ≠ wO.heap.size := fun k hk e => by have := hltO.out k hk; omega
   have HNLT := Lib.hid hnlt;have HSZA : Hid (wO.heap.size < wA.heap.size) := lt_blk HNA.out
   clear hrr hnlt hm2b;go_wp2_with fail
   go_loopw [54] (fun v54 wr => ∃ i cl' E', i <= m2 /\ v54 = .int .i64 (i : Int) /\ Hid (Bk wr b tb mb cl' E' (TS ++ textsAt r0 j ++ (textsUp (j + 1) row).take i)) /\ Hid (wr.heap[wO.heap.size]? = some (.cells (rowA (partU (j + 1) row i)) 38 (0, 0))) /\
     Hid (Chg (fun k => k = b \/ k = mb \/ k = wO.heap.size) wA wr) /\ Hid (∀ k, bkS b tb mb E' k -> bkS b tb mb E0 k \/ wA.heap.size <= k)) (fun v54 _ => m2 - (intOf v54).toNat)
   case atStart =>
    refine ⟨0, cl0, E0, Nat.zero_le _, rfl, ?_, ?_, Chg.refl _ _, Lib.hid fun k hk => .inl hk⟩
    ·rw [List.take_zero, List.append_nil]; exact HKA
    ·rw [partU_zero, HRR.out]; exact HNA
   case round =>
    obtain ⟨i, cl1, E1, hi, rfl, hK1, hN1, hC1, hG1⟩ := hrel
    by_cases hlt2 : i < m2
    ·have l2 : (i : Int) < (m2 : Int) := by omega
     have htS : ∀ q, treeS w.heap.size (.slice (some ⟨la, 0, none⟩) kq lc) Q q -> q < wA.heap.size /\ ¬ bkS b tb mb E1 q /\ (q ≠ b /\ q ≠ mb /\ q ≠ wO.heap.size) := fun q hq => by
      have h1 := hltO.out q hq
      have h2 := (hN.out q hq).2
      have h3 := HSZA.out
      refine ⟨by omega, fun hb => ?_, fun e => h2 (.inl e), fun e => h2 (.inr (.inr (.inl e))), by omega⟩
      rcases hG1.out q hb with h4 | h4
      ·exact h2 h4
      ·omega
     have hTr := (HTA.out.on.chg hC1.out (fun q hq e => by have h4 := (htS q hq).2.2; rcases e with e | e | e; exact h4.1 e; exact h4.2.1 e; exact h4.2.2 e)).holds
     have hrbS : treeS w.heap.size (.slice (some ⟨la, 0, none⟩) kq lc) Q rb := .inr (.inr ⟨_, hQ.out.2.2, rfl⟩)
     have hRr := (hC1.out.block rb (htS rb hrbS).1 (fun e => by have h4 := (htS rb hrbS).2.2; rcases e with e | e | e; exact h4.1 e; exact h4.2.1 e; exact h4.2.2 e)).trans HRA.out
     have hnO : ¬ bkS b tb mb E1 wO.heap.size := fun hb => by
      have h3 := HSZA.out
      rcases hG1.out _ hb with h4 | h4
      ·have := hltK.out _ h4; omega
      ·omega
     have hset := partU_set (j + 1) row i (by rw [HRR.out]; exact hlt2)
     have htx := textsUp_take (j + 1) row i (by rw [HRR.out]; exact hlt2)
     have hi2 : 2 * i + 1 < m := by have := HMM.out; omega
     have hK2 := hK1.out
     have hN2 := hN1.out
     have HX := Lib.hid (And.intro hset htx)
     have HTR := Lib.hid hTr;have HRR2 := Lib.hid hRr;have HHT := Lib.hid htS;have HI2 := Lib.hid hi2;have HNO := Lib.hid hnO;have HRB := Lib.hid hrbS;clear hset htx hTr hRr htS hrbS hnO hi2 hN1 hK1
     go_upto_region 14 with fail
     refine regionTrC w.heap.size rb wO.heap.size n kq i m2 la lc m (2 * i) (2 * i + 1) row (partU (j + 1) row i) (upD (j + 1) row i) (row.getD (2 * i) zeroD) (row.getD (2 * i + 1) zeroD) wr hK2 HTR.out.blk HRR2.out hN2 HRLM.out (by rw [partU_len _ _ _ (by rw [HRR.out]; exact hi), HRR.out]) hlt2 rfl rfl HI2.out rfl rfl (by have := HMM.out; omega) (by have := HQ1.out; omega) (by rw [HQ1.out]; rfl) ⟨fun e => HNLT.out _ (.inl rfl) e.symm, fun e => HNLT.out _ HRB.out e.symm⟩ ?_ ?_
     ·rintro q (rfl | rfl | rfl)
      ·exact (HHT.out _ (.inl rfl)).2.1
      ·exact (HHT.out _ HRB.out).2.1
      ·exact HNO.out
     intro wa wb wc cl2 E2 hba hkb hcb hgb hwc;have HKC : Hid (Bk wc b tb mb cl2 E2 (TS ++ textsAt r0 j ++ (textsUp (j + 1) row).take (i + 1)) /\ wc.heap[wO.heap.size]? = some (.cells (rowA (partU (j + 1) row (i + 1))) 38 (0, 0)) /\ Chg (fun k => k = b \/ k = mb \/ k = wO.heap.size) wA wc /\ ∀ k, bkS b tb mb E2 k -> bkS b tb mb E0 k \/ wA.heap.size <= k) := by
      have hcc : Chg (fun k => k = wO.heap.size) wb wc := by rw [hwc]; exact Chg.setCells (S := fun k => k = wO.heap.size) _ rfl _ _ _
      have hsA := hC1.out.size
      have h3 := HSZA.out
      refine ⟨?_, ?_, ?_, fun k hk => ?_⟩
      ·rw [HX.out.2, <- List.append_assoc]
       rw [HQ1.out] at hkb;refine (hkb.on.chg hcc (fun k hk e => ?_)).holds
       subst e;rcases hgb _ hk with h4 | h4
       ·exact HNO.out h4
       ·have := hba.size; omega
      ·rw [hwc, <- HX.out.1]
       refine rowA_set ?_ ?_ _
       ·refine (hcb.block _ (by have := hba.size; omega) (fun e => ?_)).trans ((hba.block _ (by omega)).trans hN2)
        rcases e with e | e
        ·exact HNO.out (.inl e)
        ·exact HNO.out (.inr (.inr (.inl e)))
       ·rw [partU_len _ _ _ (by rw [HRR.out]; exact hi), HRR.out]; exact hlt2
      ·exact ((hC1.out.trans' (Chg.of_below hba)).trans' (hcb.mono fun k _ hk => by rcases hk with e | e; exact .inl e; exact .inr (.inl e))).trans' (hcc.mono fun k _ hk => .inr (.inr hk))
      ·rcases hgb k hk with h4 | h4
       ·exact hG1.out k h4
       ·exact .inr (by have := hba.size; omega)
     clear hba hkb hcb hgb hwc hK2 hN2;go_wp2
     go_roundw
     case rel => exact ⟨i + 1, cl2, E2, by omega, by go_num, HKC.out.1, HKC.out.2.1, HKC.out.2.2.1, HKC.out.2.2.2⟩
     case measure => simp [intOf]; omega
    ·have him : i = m2 := by omega
     have dl : ¬ (i : Int) < (m2 : Int) := by omega
     have htS : ∀ q, treeS w.heap.size (.slice (some ⟨la, 0, none⟩) kq lc) Q q -> q < wA.heap.size /\ ¬ bkS b tb mb E1 q /\ (q ≠ b /\ q ≠ mb /\ q ≠ wO.heap.size) := fun q hq => by
      have h1 := hltO.out q hq
      have h2 := (hN.out q hq).2
      have h3 := HSZA.out
      refine ⟨by omega, fun hb => ?_, fun e => h2 (.inl e), fun e => h2 (.inr (.inr (.inl e))), by omega⟩
      rcases hG1.out q hb with h4 | h4
      ·exact h2 h4
      ·omega
     have hTr := (HTA.out.on.chg hC1.out (fun q hq e => by have h4 := (htS q hq).2.2; rcases e with e | e | e; exact h4.1 e; exact h4.2.1 e; exact h4.2.2 e)).holds
     have hnO : ¬ bkS b tb mb E1 wO.heap.size := fun hb => by
      have h3 := HSZA.out
      rcases hG1.out _ hb with h4 | h4
      ·have := hltK.out _ h4; omega
      ·omega
     have HK9 : Hid (Bk wr b tb mb cl1 E1 (TS ++ textsAt r0 (j + 1))) := by
      have h := hK1.out
      rw [him, List.take_of_length_le (by simp [textsUp, HRR.out]), HROW.out, List.append_assoc] at h
      exact h
     have HN9 : Hid (wr.heap[wO.heap.size]? = some (.cells (rowA (rowAt r0 (j + 1))) 38 (0, 0))) := by
      have h := hN1.out
      rw [him, <- HRR.out, partU_full, HROW.out] at h
      exact h
     have HL9 : Hid ((rowAt r0 (j + 1)).length = m2) := Lib.hid (by show (levelUp (j + 1) (rowAt r0 j)).length = m2; rw [levelUp_len, <- HROW.out, HRR.out])
     have HTR := Lib.hid hTr;have HHT := Lib.hid htS;have HNO := Lib.hid hnO;obtain ⟨w9, hw9⟩ : ∃ w9, w9 = wr.alloc (.cells (slE (wO.heap.size, m2)).toArray 353) := ⟨_, rfl⟩
     have hb9 : Below wr.heap.size wr w9 := by rw [hw9]; exact below_al (Below.refl _ _) _
     have hx9 : w9.heap[wr.heap.size]? = some (.cells (slE (wO.heap.size, m2)).toArray 353 (0, 0)) := by rw [hw9]; exact World.alloc_heap_new _ _
     have HF9 : Hid (RowK slE 1 w9 (some ⟨wr.heap.size, 0, none⟩) [(wO.heap.size, m2)]) := Lib.hid (rowK_one (enc := slE) (p := (wO.heap.size, m2)) (fun _ => rfl) hx9)
     have HT9 := Lib.hid ((hTr.on.below hb9).holds)
     have HNN : Hid (w9.heap[wO.heap.size]? = some (.cells (rowA (rowAt r0 (j + 1))) 38 (0, 0))) := (hb9.block _ (lt_blk HN9.out)).trans HN9.out
     have HKK := Lib.hid (HK9.out.on.below hb9)
     have HB9 := Lib.hid hb9;have cr2 : wr.cell? ⟨w.heap.size, 2, none⟩ = some (.slice (some ⟨la, 0, none⟩) kq lc) := (cells_at hTr.blk 2).trans rfl
     have HKL : Hid (kq <= 100) := Lib.hid (by have := HQ1.out; omega)
     clear htS hTr hnO hb9 hx9 hK1 hN1 him;go_wp2_with (first
      | (refine slRT.wpList_build (p := (wO.heap.size, m2)) (by decide) rfl (.tmp 86) rfl rfl ?_; rw [<- hw9]; clear hw9)
      | (refine slRT.wpList_append_at rfl (.tmp 85) (.tmp 87) rfl (base := 0) (v := .slice (some ⟨la, 0, none⟩) kq lc) (n := kq) (L := qS Q) rfl (HKQ.out ▸ HT9.out.own) (a := some ⟨wr.heap.size, 0, none⟩) (m := 1) (cap := 1) (M := [(wO.heap.size, m2)]) rfl rfl HF9.out (fun h => by cases h) (by rintro _ ⟨⟩; rfl) (by have := HKL.out; unfold maxLen; omega) (by have := HKL.out; omega) (Nat.zero_le _) ?_; intro v10 w10 hown10 hgr10 hnil10 hat10; obtain ⟨a10, c10, rfl⟩ := own_sl hown10; have hpush := TreeAt.push (q := wO.heap.size) (k := kq) (m := m2) (row := rowAt r0 (j + 1)) HL9.out HKQ.out.symm HT9.out HNN.out ⟨fun e => HNLT.out _ (.inl rfl) e.symm, fun e => HNLT.out _ (.inr (.inl e)) rfl⟩ hown10 hgr10 hat10; have hne10 : (Value.slice (some (⟨la, 0, none⟩ : Addr)) kq lc).ownBlock ≠ some w.heap.size := HT9.out.ne.1; have hbt := (hgr10.block _ (lt_blk HT9.out.blk) (fun e => hne10 e.symm)).trans HT9.out.blk; have c102 : w10.cell? ⟨w.heap.size, 2, none⟩ = some (.slice (some ⟨la, 0, none⟩) kq lc) := (cells_at hbt 2).trans rfl; have f102 := free_at hbt 2; have HPU := Lib.hid hpush; have HAT := Lib.hid hat10; clear hown10 hgr10 hnil10 hat10 hpush cr2 hbt hne10)
      | fail)
     generalize hW11 : World.setCell w10 _ _ = w11 at *
     clear hW11;have hCA : Chg (fun k => k = b \/ k = mb) w wA := hC.out.trans' (Chg.of_below HBA.out)
     have hCr : Chg (fun k => k = b \/ k = mb) w wr := hCA.trans hC1.out (fun q hq => by
      rcases hq with e | e | e
      ·exact .inl (.inl e)
      ·exact .inl (.inr e)
      ·exact .inr (by rw [e]; exact hC.out.size))
     have hC9 : Chg (fun k => k = b \/ k = mb) w w9 := hCr.trans' (Chg.of_below HB9.out)
     have hC11 : Chg (fun k => k = b \/ k = mb) w w11 := hC9.trans HPU.out.2 (fun q hq => by
      rcases hq with e | e
      ·exact .inr (Nat.le_of_eq e.symm)
      ·exact .inr (hN.out q (.inr (.inl e))).1)
     have hK11 : Bk w11 b tb mb cl1 E1 (TS ++ textsAt r0 (j + 1)) := (HKK.out.chg HPU.out.2 (fun q hq e => by
      rcases e with e | e
      ·exact (HHT.out q (.inl e)).2.1 hq
      ·exact (HHT.out q (.inr (.inl e))).2.1 hq)).holds
     refine ⟨⟨j + 1, wO.heap.size, m2, .slice a10 (kq + 1) c10, Q ++ [(wO.heap.size, rowAt r0 (j + 1))], cl1, E1, hlt, rfl, HHM2.out, HPU.out.1, ⟨?_, ?_, List.mem_append_right _ (List.mem_singleton.2 rfl)⟩, hK11, hC11, Lib.hid fun q hq => ?_, Lib.hid fun q hq => ?_⟩, ?_⟩
     ·rw [List.length_append, <- HKQ.out, HQ1.out]; rfl
     ·rw [List.map_append, hQ.out.2.1, List.range_succ (n := j + 1), List.map_append]; rfl
     ·rcases hG1.out q hq with h4 | h4
      ·exact hG.out q h4
      ·exact .inr (Nat.le_trans hCA.size h4)
     ·rcases hq with e | e | ⟨x, hx, e⟩
      ·exact ⟨Nat.le_of_eq e.symm, (HHT.out q (.inl e)).2.1⟩
      ·rcases HAT.out with e2 | e2
       ·rw [e2] at e
        exact ⟨(hN.out q (.inr (.inl e))).1, (HHT.out q (.inr (.inl e))).2.1⟩
       ·rw [e2] at e
        have e3 := Option.some.inj e
        have h5 := hC9.size
        refine ⟨by omega, fun hb => ?_⟩
        have := HKK.out.lt q hb
        omega
      ·rcases List.mem_append.1 hx with hx | hx
       ·exact ⟨(hN.out q (.inr (.inr ⟨x, hx, e⟩))).1, (HHT.out q (.inr (.inr ⟨x, hx, e⟩))).2.1⟩
       ·obtain rfl : x = (wO.heap.size, rowAt r0 (j + 1)) := by simpa using hx
        have e4 : wO.heap.size = q := e
        rw [<- e4];exact ⟨hC.out.size, HNO.out⟩
     ·show m2 < m
      have := HMM.out
      omega
  ·have hjd : j = d := by omega
   have hm1 : m = 1 := by rw [hm.out, hjd, Nat.sub_self, Nat.pow_zero]
   have dl : ¬ (m : Int) > 1 := by omega
   have dl2 : ¬ (1 : Int) < (m : Int) := by omega
   have HJD := Lib.hid hjd;clear hm1 hjd hrl hsz hm;go_wp2
   go_ret2
   rw [HJD.out] at hQ hK;refine ⟨w.heap.size, rfl, lv, Q, cl0, E0, hT.out, ?_, ?_, hC.out, hG.out, hN.out⟩
   ·rw [hQ.out.2.1, HR0.out, HD.out]
   ·have h := hK.out
    rw [HR0.out] at h;unfold treeTexts;rw [HL.out, <- HD.out]
    exact h
theorem cell_lt {w : World} {a o : Nat} {v : Value} (h : w.cell? ⟨a, o, none⟩ = some v) : a < w.heap.size := by
 rcases Nat.lt_or_ge a w.heap.size with h1 | h1
 ·exact h1
 ·simp [World.cell?, Array.getElem?_eq_none h1] at h
def opsTrT : {o : Array Oper // some o = (Tryz.f207.body.bind (Fre.findR 3))} := ⟨_, rfl⟩
theorem fitTrT : Fre.fit .any opsTrT.1 29 = true := by kernel_rfl
theorem sizeTrT : opsTrT.1.size = 24 := by kernel_rfl
theorem tailTrT : Fre.tailFitT .any opsTrT.1 22 = true := by kernel_rfl
def VTrT (t b n la k lc k1 rq rl : Nat) (row : List Dg) (i : Nat) (v : Value) (w : World) : Prop := match i with
 | 0 => v = .pointer (some ⟨t, 0, none⟩)
 | 1 => v = .pointer (some ⟨t, 0, none⟩)
 | 2 => v = .pointer (some ⟨t, 0, none⟩)
 | 3 => v = .pointer (some ⟨b, 0, none⟩)
 | 4 => v = .pointer (some ⟨t, 0, none⟩)
 | 5 => v = .pointer (some ⟨t, 0, none⟩)
 | 6 => v = .pointer (some ⟨t, 1, none⟩)
 | 7 => v = .int .i64 (n : Int)
 | 8 => v = .pointer (some ⟨t, 0, none⟩)
 | 9 => v = .pointer (some ⟨t, 0, none⟩)
 | 10 => v = .pointer (some ⟨t, 2, none⟩)
 | 11 => v = .slice (some ⟨la, 0, none⟩) k lc
 | 12 => v = .pointer (some ⟨t, 0, none⟩)
 | 13 => v = .pointer (some ⟨t, 0, none⟩)
 | 14 => v = .pointer (some ⟨t, 2, none⟩)
 | 15 => v = .slice (some ⟨la, 0, none⟩) k lc
 | 16 => v = .int .i64 (k : Int)
 | 17 => v = .int .i64 (k1 : Int)
 | 18 => v = .pointer (some ⟨la, k1, none⟩)
 | 19 => v = .slice (some ⟨rq, 0, none⟩) rl rl
 | 20 => v = .pointer (some ⟨rq, 0, none⟩)
 | 21 => v = .agg (bA (row.getD 0 zeroD).1)
 | _ => True
section
variable {u1 u2 u3 u4 u5 u6 u7 u8 u9 u10 u11 u12 u13 u14 u15 u16 u17 u18 u19 u20 u21 u22 u23 u24 u25 u26 u27 u28 : Value}
theorem kpTrT (t b n la k lc k1 rq rl : Nat) (row : List Dg) : ∀ j v w w', j < 22 -> VTrT t b n la k lc k1 rq rl row j v w -> Fre.Kept w w' -> VTrT t b n la k lc k1 rq rl row j v w' := by
 intro j v w w' hj h hs
 rcases cs22 hj with rfl | rfl | rfl | rfl | rfl | rfl | rfl | rfl | rfl | rfl | rfl | rfl | rfl | rfl | rfl | rfl | rfl | rfl | rfl | rfl | rfl | rfl <;> exact h
variable {t b n la k lc k1 rq rl : Nat} {row : List Dg} {a0 : Act} {w0 : World} (h0 : w0.heap[t]? = some (.cells #[.pointer (some ⟨b, 0, none⟩), .int .i64 (n : Int), .slice (some ⟨la, 0, none⟩) k lc] 361 (0, 0))) (h1 : w0.cell? ⟨la, k1, none⟩ = some (.slice (some ⟨rq, 0, none⟩) rl rl)) (h2 : w0.heap[rq]? = some (.cells (rowA row) 38 (0, 0))) (hrl : row.length = rl) (hr0 : 0 < rl) (hk : k = k1 + 1) (hk4 : k <= 100)
include h0 h1 h2 hrl hr0 hk hk4
theorem stTrT_0 (g90 : a0.tmps.getD 0 undef = .pointer (some ⟨t, 0, none⟩)) : Fre.StepB Tryz.prog opsTrT.1 a0 w0 (VTrT t b n la k lc k1 rq rl row) Fre.Kept 0 := by
 rintro E w hc hf hE hV hN hS _ ⟨⟩
 simp only [opsTrT, gA, gS, gZ]
 have b0 : E (.tmp 0) = .pointer (some ⟨t, 0, none⟩) := (hE 0 (by kernel_rfl)).trans g90
 clear g90;refine Fre.dv (v := .pointer (some ⟨t, 0, none⟩)) ?_
 go_simp
theorem stTrT_1 : Fre.StepB Tryz.prog opsTrT.1 a0 w0 (VTrT t b n la k lc k1 rq rl row) Fre.Kept 1 := by
 rintro E w hc hf hE hV hN hS _ ⟨⟩
 simp only [opsTrT, gA, gS, gZ]
 have d0 : E (.tmp 6) = .pointer (some ⟨t, 0, none⟩) := hV 0 6 (by kernel_rfl) (by kernel_rfl)
 refine Fre.dv (v := .pointer (some ⟨t, 0, none⟩)) ?_
 go_simp
theorem stTrT_2 : Fre.StepB Tryz.prog opsTrT.1 a0 w0 (VTrT t b n la k lc k1 rq rl row) Fre.Kept 2 := by
 rintro E w hc hf hE hV hN hS _ ⟨⟩
 simp only [opsTrT, gA, gS, gZ]
 have d1 : E (.tmp 7) = .pointer (some ⟨t, 0, none⟩) := hV 1 7 (by kernel_rfl) (by kernel_rfl)
 refine Fre.dv (v := .pointer (some ⟨t, 0, none⟩)) ?_
 go_simp
theorem stTrT_3 : Fre.StepB Tryz.prog opsTrT.1 a0 w0 (VTrT t b n la k lc k1 rq rl row) Fre.Kept 3 := by
 rintro E w hc hf hE hV hN hS _ ⟨⟩
 simp only [opsTrT, gA, gS, gZ]
 have d2 : E (.tmp 8) = .pointer (some ⟨t, 0, none⟩) := hV 2 8 (by kernel_rfl) (by kernel_rfl)
 have c0 : w.cell? ⟨t, 0, none⟩ = some (.pointer (some ⟨b, 0, none⟩)) := (cells_at ((hS.block t (lt_blk h0)).trans h0) 0).trans rfl
 refine Fre.dv (v := .pointer (some ⟨b, 0, none⟩)) ?_
 go_simp
theorem stTrT_4 (g90 : a0.tmps.getD 0 undef = .pointer (some ⟨t, 0, none⟩)) : Fre.StepB Tryz.prog opsTrT.1 a0 w0 (VTrT t b n la k lc k1 rq rl row) Fre.Kept 4 := by
 rintro E w hc hf hE hV hN hS _ ⟨⟩
 simp only [opsTrT, gA, gS, gZ]
 have b0 : E (.tmp 0) = .pointer (some ⟨t, 0, none⟩) := (hE 0 (by kernel_rfl)).trans g90
 clear g90;refine Fre.dv (v := .pointer (some ⟨t, 0, none⟩)) ?_
 go_simp
theorem stTrT_5 : Fre.StepB Tryz.prog opsTrT.1 a0 w0 (VTrT t b n la k lc k1 rq rl row) Fre.Kept 5 := by
 rintro E w hc hf hE hV hN hS _ ⟨⟩
 simp only [opsTrT, gA, gS, gZ]
 have d4 : E (.tmp 10) = .pointer (some ⟨t, 0, none⟩) := hV 4 10 (by kernel_rfl) (by kernel_rfl)
 refine Fre.dv (v := .pointer (some ⟨t, 0, none⟩)) ?_
 go_simp
theorem stTrT_6 : Fre.StepB Tryz.prog opsTrT.1 a0 w0 (VTrT t b n la k lc k1 rq rl row) Fre.Kept 6 := by
 rintro E w hc hf hE hV hN hS _ ⟨⟩
 simp only [opsTrT, gA, gS, gZ]
 have d5 : E (.tmp 11) = .pointer (some ⟨t, 0, none⟩) := hV 5 11 (by kernel_rfl) (by kernel_rfl)
 refine Fre.dv (v := .pointer (some ⟨t, 1, none⟩)) ?_
 go_simp
theorem stTrT_7 : Fre.StepB Tryz.prog opsTrT.1 a0 w0 (VTrT t b n la k lc k1 rq rl row) Fre.Kept 7 := by
 rintro E w hc hf hE hV hN hS _ ⟨⟩
 simp only [opsTrT, gA, gS, gZ]
 have d6 : E (.tmp 12) = .pointer (some ⟨t, 1, none⟩) := hV 6 12 (by kernel_rfl) (by kernel_rfl)
 have c0 : w.cell? ⟨t, 1, none⟩ = some (.int .i64 (n : Int)) := (cells_at ((hS.block t (lt_blk h0)).trans h0) 1).trans rfl
 refine Fre.dv (v := .int .i64 (n : Int)) ?_
 go_simp
theorem stTrT_8 (g90 : a0.tmps.getD 0 undef = .pointer (some ⟨t, 0, none⟩)) : Fre.StepB Tryz.prog opsTrT.1 a0 w0 (VTrT t b n la k lc k1 rq rl row) Fre.Kept 8 := by
 rintro E w hc hf hE hV hN hS _ ⟨⟩
 simp only [opsTrT, gA, gS, gZ]
 have b0 : E (.tmp 0) = .pointer (some ⟨t, 0, none⟩) := (hE 0 (by kernel_rfl)).trans g90
 clear g90;refine Fre.dv (v := .pointer (some ⟨t, 0, none⟩)) ?_
 go_simp
theorem stTrT_9 : Fre.StepB Tryz.prog opsTrT.1 a0 w0 (VTrT t b n la k lc k1 rq rl row) Fre.Kept 9 := by
 rintro E w hc hf hE hV hN hS _ ⟨⟩
 simp only [opsTrT, gA, gS, gZ]
 have d8 : E (.tmp 14) = .pointer (some ⟨t, 0, none⟩) := hV 8 14 (by kernel_rfl) (by kernel_rfl)
 refine Fre.dv (v := .pointer (some ⟨t, 0, none⟩)) ?_
 go_simp
theorem stTrT_10 : Fre.StepB Tryz.prog opsTrT.1 a0 w0 (VTrT t b n la k lc k1 rq rl row) Fre.Kept 10 := by
 rintro E w hc hf hE hV hN hS _ ⟨⟩
 simp only [opsTrT, gA, gS, gZ]
 have d9 : E (.tmp 15) = .pointer (some ⟨t, 0, none⟩) := hV 9 15 (by kernel_rfl) (by kernel_rfl)
 refine Fre.dv (v := .pointer (some ⟨t, 2, none⟩)) ?_
 go_simp
theorem stTrT_11 : Fre.StepB Tryz.prog opsTrT.1 a0 w0 (VTrT t b n la k lc k1 rq rl row) Fre.Kept 11 := by
 rintro E w hc hf hE hV hN hS _ ⟨⟩
 simp only [opsTrT, gA, gS, gZ]
 have d10 : E (.tmp 16) = .pointer (some ⟨t, 2, none⟩) := hV 10 16 (by kernel_rfl) (by kernel_rfl)
 have c0 : w.cell? ⟨t, 2, none⟩ = some (.slice (some ⟨la, 0, none⟩) k lc) := (cells_at ((hS.block t (lt_blk h0)).trans h0) 2).trans rfl
 refine Fre.dv (v := .slice (some ⟨la, 0, none⟩) k lc) ?_
 go_simp
theorem stTrT_12 (g90 : a0.tmps.getD 0 undef = .pointer (some ⟨t, 0, none⟩)) : Fre.StepB Tryz.prog opsTrT.1 a0 w0 (VTrT t b n la k lc k1 rq rl row) Fre.Kept 12 := by
 rintro E w hc hf hE hV hN hS _ ⟨⟩
 simp only [opsTrT, gA, gS, gZ]
 have b0 : E (.tmp 0) = .pointer (some ⟨t, 0, none⟩) := (hE 0 (by kernel_rfl)).trans g90
 clear g90;refine Fre.dv (v := .pointer (some ⟨t, 0, none⟩)) ?_
 go_simp
theorem stTrT_13 : Fre.StepB Tryz.prog opsTrT.1 a0 w0 (VTrT t b n la k lc k1 rq rl row) Fre.Kept 13 := by
 rintro E w hc hf hE hV hN hS _ ⟨⟩
 simp only [opsTrT, gA, gS, gZ]
 have d12 : E (.tmp 18) = .pointer (some ⟨t, 0, none⟩) := hV 12 18 (by kernel_rfl) (by kernel_rfl)
 refine Fre.dv (v := .pointer (some ⟨t, 0, none⟩)) ?_
 go_simp
theorem stTrT_14 : Fre.StepB Tryz.prog opsTrT.1 a0 w0 (VTrT t b n la k lc k1 rq rl row) Fre.Kept 14 := by
 rintro E w hc hf hE hV hN hS _ ⟨⟩
 simp only [opsTrT, gA, gS, gZ]
 have d13 : E (.tmp 19) = .pointer (some ⟨t, 0, none⟩) := hV 13 19 (by kernel_rfl) (by kernel_rfl)
 refine Fre.dv (v := .pointer (some ⟨t, 2, none⟩)) ?_
 go_simp
theorem stTrT_15 : Fre.StepB Tryz.prog opsTrT.1 a0 w0 (VTrT t b n la k lc k1 rq rl row) Fre.Kept 15 := by
 rintro E w hc hf hE hV hN hS _ ⟨⟩
 simp only [opsTrT, gA, gS, gZ]
 have d14 : E (.tmp 20) = .pointer (some ⟨t, 2, none⟩) := hV 14 20 (by kernel_rfl) (by kernel_rfl)
 have c0 : w.cell? ⟨t, 2, none⟩ = some (.slice (some ⟨la, 0, none⟩) k lc) := (cells_at ((hS.block t (lt_blk h0)).trans h0) 2).trans rfl
 refine Fre.dv (v := .slice (some ⟨la, 0, none⟩) k lc) ?_
 go_simp
theorem stTrT_16 : Fre.StepB Tryz.prog opsTrT.1 a0 w0 (VTrT t b n la k lc k1 rq rl row) Fre.Kept 16 := by
 rintro E w hc hf hE hV hN hS _ ⟨⟩
 simp only [opsTrT, gA, gS, gZ]
 have d15 : E (.tmp 21) = .slice (some ⟨la, 0, none⟩) k lc := hV 15 21 (by kernel_rfl) (by kernel_rfl)
 refine Fre.dv (v := .int .i64 (k : Int)) ?_
 go_simp
theorem stTrT_17 : Fre.StepB Tryz.prog opsTrT.1 a0 w0 (VTrT t b n la k lc k1 rq rl row) Fre.Kept 17 := by
 rintro E w hc hf hE hV hN hS _ ⟨⟩
 simp only [opsTrT, gA, gS, gZ]
 have d16 : E (.tmp 22) = .int .i64 (k : Int) := hV 16 22 (by kernel_rfl) (by kernel_rfl)
 have e1 : IntKind.i64.wrap ((k : Int) - 1) = (k1 : Int) := by rw [IntWalk.i64_in _ (by omega)]; omega
 clear hk hk4;refine Fre.dv (v := .int .i64 (k1 : Int)) ?_
 go_simp
theorem stTrT_18 : Fre.StepB Tryz.prog opsTrT.1 a0 w0 (VTrT t b n la k lc k1 rq rl row) Fre.Kept 18 := by
 rintro E w hc hf hE hV hN hS _ ⟨⟩
 simp only [opsTrT, gA, gS, gZ]
 have d11 : E (.tmp 17) = .slice (some ⟨la, 0, none⟩) k lc := hV 11 17 (by kernel_rfl) (by kernel_rfl)
 have d17 : E (.tmp 23) = .int .i64 (k1 : Int) := hV 17 23 (by kernel_rfl) (by kernel_rfl)
 have l1 : (k1 : Int) < (k : Int) := by omega
 have l2 : ¬ (k1 : Int) < 0 := by omega
 clear hk hk4;refine Fre.dv (v := .pointer (some ⟨la, k1, none⟩)) ?_
 go_simp
theorem stTrT_19 : Fre.StepB Tryz.prog opsTrT.1 a0 w0 (VTrT t b n la k lc k1 rq rl row) Fre.Kept 19 := by
 rintro E w hc hf hE hV hN hS _ ⟨⟩
 simp only [opsTrT, gA, gS, gZ]
 have d18 : E (.tmp 24) = .pointer (some ⟨la, k1, none⟩) := hV 18 24 (by kernel_rfl) (by kernel_rfl)
 have c0 : w.cell? ⟨la, k1, none⟩ = some (.slice (some ⟨rq, 0, none⟩) rl rl) := by have hlt := cell_lt h1; rw [<- h1]; simp only [World.cell?, hS.block la hlt]
 refine Fre.dv (v := .slice (some ⟨rq, 0, none⟩) rl rl) ?_
 go_simp
theorem stTrT_20 : Fre.StepB Tryz.prog opsTrT.1 a0 w0 (VTrT t b n la k lc k1 rq rl row) Fre.Kept 20 := by
 rintro E w hc hf hE hV hN hS _ ⟨⟩
 simp only [opsTrT, gA, gS, gZ]
 have d19 : E (.tmp 25) = .slice (some ⟨rq, 0, none⟩) rl rl := hV 19 25 (by kernel_rfl) (by kernel_rfl)
 have l1 : (0 : Int) < (rl : Int) := by omega
 refine Fre.dv (v := .pointer (some ⟨rq, 0, none⟩)) ?_
 go_simp
theorem stTrT_21 : Fre.StepB Tryz.prog opsTrT.1 a0 w0 (VTrT t b n la k lc k1 rq rl row) Fre.Kept 21 := by
 rintro E w hc hf hE hV hN hS _ ⟨⟩
 simp only [opsTrT, gA, gS, gZ]
 have d20 : E (.tmp 26) = .pointer (some ⟨rq, 0, none⟩) := hV 20 26 (by kernel_rfl) (by kernel_rfl)
 have hr := load_dig h2 w hS 0 (by omega)
 rw [Nat.zero_mul] at hr;refine Fre.dv (v := .agg (bA (row.getD 0 zeroD).1)) ?_
 unfold execOp;simp only [d20, Instr.loadAt, Instr.sureAddr, Sem.run_bind, Sem.run_pure, Result.andThen_ok, hr]
variable (t b n la k lc k1 rq rl row w0)
theorem regionTrT {QQ : Exit -> Act -> World -> Prop} (hQ : ∀ (vs : Nat -> Value) w, (∀ j, j < 22 -> VTrT t b n la k lc k1 rq rl row j (vs j) w) -> Fre.Kept w0 w -> wpList Tryz.prog opsTrT.1 QQ (opsTrT.1.toList.drop 22) ⟨#[.pointer (some ⟨t, 0, none⟩), u1, u2, u3, u4, u5, vs 0, vs 1, vs 2, vs 3, vs 4, vs 5, vs 6, vs 7, vs 8, vs 9, vs 10, vs 11, vs 12, vs 13, vs 14, vs 15, vs 16, vs 17, vs 18, vs 19, vs 20, vs 21, u28], []⟩ w) : (Code.region 3 opsTrT.1 true).wp Tryz.prog QQ ⟨#[.pointer (some ⟨t, 0, none⟩), u1, u2, u3, u4, u5, u6, u7, u8, u9, u10, u11, u12, u13, u14, u15, u16, u17, u18, u19, u20, u21, u22, u23, u24, u25, u26, u27, u28], []⟩ w0 := by
 refine Fre.region_tailT 29 22 (by kernel_rfl) fitTrT rfl tailTrT (by rw [sizeTrT]; omega) (VTrT t b n la k lc k1 rq rl row) (kpTrT t b n la k lc k1 rq rl row) (fun i hi => ?_) (fun vs w h1 h2 => ?_)
 case refine_2 =>
  have h9 := hQ vs w h1 h2
  exact Fre.fe (p := fun t => wpList Tryz.prog opsTrT.1 QQ (opsTrT.1.toList.drop 22) ⟨t, []⟩ w) h9 (by kernel_rfl)
 rcases cs22 hi with rfl | rfl | rfl | rfl | rfl | rfl | rfl | rfl | rfl | rfl | rfl | rfl | rfl | rfl | rfl | rfl | rfl | rfl | rfl | rfl | rfl | rfl
 ·exact stTrT_0 h0 h1 h2 hrl hr0 hk hk4 rfl
 ·exact stTrT_1 h0 h1 h2 hrl hr0 hk hk4
 ·exact stTrT_2 h0 h1 h2 hrl hr0 hk hk4
 ·exact stTrT_3 h0 h1 h2 hrl hr0 hk hk4
 ·exact stTrT_4 h0 h1 h2 hrl hr0 hk hk4 rfl
 ·exact stTrT_5 h0 h1 h2 hrl hr0 hk hk4
 ·exact stTrT_6 h0 h1 h2 hrl hr0 hk hk4
 ·exact stTrT_7 h0 h1 h2 hrl hr0 hk hk4
 ·exact stTrT_8 h0 h1 h2 hrl hr0 hk hk4 rfl
 ·exact stTrT_9 h0 h1 h2 hrl hr0 hk hk4
 ·exact stTrT_10 h0 h1 h2 hrl hr0 hk hk4
 ·exact stTrT_11 h0 h1 h2 hrl hr0 hk hk4
 ·exact stTrT_12 h0 h1 h2 hrl hr0 hk hk4 rfl
 ·exact stTrT_13 h0 h1 h2 hrl hr0 hk hk4
 ·exact stTrT_14 h0 h1 h2 hrl hr0 hk hk4
 ·exact stTrT_15 h0 h1 h2 hrl hr0 hk hk4
 ·exact stTrT_16 h0 h1 h2 hrl hr0 hk hk4
 ·exact stTrT_17 h0 h1 h2 hrl hr0 hk hk4
 ·exact stTrT_18 h0 h1 h2 hrl hr0 hk hk4
 ·exact stTrT_19 h0 h1 h2 hrl hr0 hk hk4
 ·exact stTrT_20 h0 h1 h2 hrl hr0 hk hk4
 ·exact stTrT_21 h0 h1 h2 hrl hr0 hk hk4
end
theorem treeTop_c {b tb mb : Nat} {cl : Option Nat} {E : List BEnt} {TS : List (List Nat)} {t n : Nat} {lv : Value} {Q : List QRow} (rq : Nat) (row : List Dg) (hn : n <= 1024) (hQ : Q.length <= 20) (hlast : Q[Q.length - 1]? = some (rq, row)) (hrow : 0 < row.length) (w : World) (hT : TreeAt w t b n lv Q) (h : Bk w b tb mb cl E TS) :
  Calls Tryz.prog 207 #[.pointer (some ⟨t, 0, none⟩)] w fun r w' => r = .returned (.agg (bA (sumN (rootT n (row.getD 0 zeroD).1)))) /\ BkTo w w' b tb mb E (TS ++ [rootT n (row.getD 0 zeroD).1]) := by
 obtain ⟨x, hx⟩ : ∃ x, x = row.getD 0 zeroD := ⟨_, rfl⟩
 obtain ⟨k, hk⟩ : ∃ k, k = Q.length := ⟨_, rfl⟩
 have hk0 : 0 < k := by
  rw [hk];rcases Nat.eq_zero_or_pos Q.length with h0 | h0
  ·rw [h0] at hlast; simp [List.length_eq_zero_iff.1 h0] at hlast
  ·exact h0
 obtain ⟨k1, hk1⟩ : ∃ k1, k = k1 + 1 := ⟨k - 1, by omega⟩
 obtain ⟨la, lc, rfl, _, _⟩ := own_pos hT.own (by rw [<- hk]; exact hk0)
 have hrk := rowK_own (enc := slE) (k := 1) (fun _ => rfl) Nat.zero_lt_one hT.own
 have hlk : (qS Q)[k1]? = some (rq, row.length) := by
  unfold qS;rw [List.getElem?_map, show k1 = Q.length - 1 by omega, hlast]; rfl
 obtain ⟨_, hcell⟩ := hrk.at hlk
 have c1 := hcell 0 (slV (rq, row.length)) rfl
 rw [show 0 + (k1 * 1 + 0) = k1 by omega] at c1
 have hrows := hT.rows (rq, row) (List.mem_of_getElem? hlast)
 rw [<- hk] at hT;have HT := Lib.hid hT;have HH := Lib.hid h;have HC1 := Lib.hid c1;have HR := Lib.hid hrows;have HX := Lib.hid hx;have HK1 := Lib.hid hk1;have HKB : Hid (k <= 20) := Lib.hid (by rw [hk]; exact hQ)
 obtain ⟨d, hd⟩ : ∃ d, d = sumN (rootT n x.1) := ⟨_, rfl⟩
 have HD := Lib.hid hd;have HGS : Hid ((bA d).size = 32) := by rw [hd, bA_size]; exact sum_len _
 rw [<- hx, <- hd]
 clear hT h c1 hrows hx hd hk hk1 hrk hlk hcell hlast hk0
 go_enter Tryz.func207, Tryz.ntmps207
 go_upto_region 3 with fail
 generalize hW1 : World.alloc w _ = w1
 have hb1 : Below w.heap.size w w1 := by rw [<- hW1]; exact below_al (Below.refl _ w) _
 have hz1 : w1.heap[w.heap.size]? = some (.cells (bA (List.replicate 32 0)) 38 (0, 0)) := by rw [<- hW1]; exact World.alloc_heap_new _ _
 clear hW1;have HB1 := Lib.hid hb1;have HZ1 := Lib.hid hz1;have hc1 : w1.cell? ⟨la, k1, none⟩ = some (.slice (some ⟨rq, 0, none⟩) row.length row.length) := by rw [<- show w.cell? ⟨la, k1, none⟩ = some (.slice (some ⟨rq, 0, none⟩) row.length row.length) from HC1.out]; simp only [World.cell?, hb1.block la (cell_lt HC1.out)]
 refine regionTrT t b n la k lc k1 rq row.length row w1 ((hb1.block _ (lt_blk HT.out.blk)).trans HT.out.blk) hc1 ((hb1.block _ (lt_blk HR.out)).trans HR.out) rfl hrow HK1.out (by have := HKB.out; omega) ?_
 clear hc1 hb1 hz1;intro vs w3 hv hk3;have v3 : vs 3 = .pointer (some ⟨b, 0, none⟩) := hv 3 (by omega)
 have v7 : vs 7 = .int .i64 (n : Int) := hv 7 (by omega)
 have v21 : vs 21 = .agg (bA (row.getD 0 zeroD).1) := hv 21 (by omega)
 rw [v3, v7, v21, <- HX.out]
 have hb03 : Below w.heap.size w w3 := HB1.out.trans (hk3.mono HB1.out.size)
 have hrt := treeRoot_c n (by omega) x.1 x.2 w3 (HH.out.on.below hb03).holds
 rw [<- HD.out] at hrt;have HRT := Lib.hid hrt;have HZ3 : Hid (w3.heap[w.heap.size]? = some (.cells (bA (List.replicate 32 0)) 38 (0, 0))) := (hk3.block _ (lt_blk HZ1.out)).trans HZ1.out
 have HB3 := Lib.hid hb03;simp only [opsTrT, List.drop_succ_cons, List.drop_zero]
 clear hk3 hv hb03 hrt v3 v7 v21;go_wp2_with fail
 refine HRT.out.mono ?_
 rintro r w4 ⟨rfl, hto⟩
 have HZ4 : Hid (w4.heap[w.heap.size]? = some (.cells (bA (List.replicate 32 0)) 38 (0, 0))) := by
  obtain ⟨cl', E', h1, h2, h3⟩ := hto
  refine (h2.block _ (lt_blk HZ3.out) ?_).trans HZ3.out
  have e1 := HH.out.on.lt b (.inl rfl)
  have e2 := HH.out.on.lt mb (.inr (.inr (.inl rfl)))
  omega
 have HTO := Lib.hid hto;clear hto HRT;go_wp2_with (first
  | (refine wpList_store_row rfl 38 (.tmp 2) (.tmp 28) rfl w.heap.size (bA d) rfl rfl 38 _ HZ4.out (by rw [info32, HGS.out]) (by rw [HGS.out]; rfl) (bA_oneS _) ?_)
  | fail)
 refine bodyPost_ret (results_cell_row rfl _ _ w.heap.size 38 (bA d) (0, 0) _ rfl (setRow_heap _ _ _ _ _ _ HZ4.out) Tryz.underlying38 rfl (by rw [info32, HGS.out])) rfl ⟨rfl, ?_⟩
 exact BkTo.around HH.out HB3.out HTO.out (Chg.setRow (S := (· = w.heap.size)) w4 w.heap.size (bA d) rfl) (fun i hi => ⟨Nat.le_of_eq hi.symm, by rw [hi]; exact lt_blk HZ3.out⟩)
structure BaseR where
 D : DevB
 av : Value
 N : List Nat
 t : Nat
 c : Nat
 R : List Nat
 s : Nat
 m : Nat
 K : KeyC
 M : List NEnt
 b : Nat
 tb : Nat
 mb : Nat
 cl : Option Nat
 E : List BEnt
 TS : List (List Nat)
 n : Nat
 x : Nat
def BaseR.dS (X : BaseR) : BSet := devS X.D X.av
def BaseR.sS (X : BaseR) : BSet := slnS X.s X.m X.K X.M
def BaseR.bS (X : BaseR) : BSet := bkS X.b X.tb X.mb X.E
def BaseR.S (X : BaseR) : BSet := fun k => X.dS k \/ k = X.t \/ X.sS k \/ X.bS k
structure BaseAt (w : World) (X : BaseR) : Prop where
 dev : Dev w X.D X.av X.N
 tr : TrAt w X.t X.D.d X.c X.R
 sl : SlN w X.s X.m X.K X.M
 bk : Bk w X.b X.tb X.mb X.cl X.E X.TS
 rl : X.R.length = 32
 geo : geoB X.n X.x = true
 len : 8 * X.D.n = 256 * totalN X.n X.x
 key : X.K.key.length = 16 \/ X.K.key.length = 32
 dt : ¬ X.dS X.t
 st : ¬ X.sS X.t
 bt : ¬ X.bS X.t
 ds : ∀ k, X.dS k -> ¬ X.sS k
 db : ∀ k, X.dS k -> ¬ X.bS k
 sb : ∀ k, X.sS k -> ¬ X.bS k
theorem TrAt.on {w : World} {t d c : Nat} {R : List Nat} (h : TrAt w t d c R) : On (· = t) (fun w => TrAt w t d c R) w := On.block h
theorem BaseAt.lt {w : World} {X : BaseR} (h : BaseAt w X) : ∀ k, X.S k -> k < w.heap.size := by
 rintro k (hk | rfl | hk | hk)
 ·exact h.dev.on.lt k hk
 ·exact lt_blk h.tr
 ·exact h.sl.on.lt k hk
 ·exact h.bk.on.lt k hk
theorem BaseAt.on {w : World} {X : BaseR} (h : BaseAt w X) : On X.S (fun w => BaseAt w X) w :=
 ⟨h, h.lt, fun w' he => ⟨h.dev.on.keep w' fun k hk => he k (.inl hk), h.tr.on.keep w' fun k hk => he k (.inr (.inl hk)), h.sl.on.keep w' fun k hk => he k (.inr (.inr (.inl hk))), h.bk.on.keep w' fun k hk => he k (.inr (.inr (.inr hk))),
  h.rl, h.geo, h.len, h.key, h.dt, h.st, h.bt, h.ds, h.db, h.sb⟩⟩
structure BaseTo (w w' : World) (X X' : BaseR) : Prop where
 at' : BaseAt w' X'
 chg : Chg X.S w w'
 new : ∀ k, X'.S k -> X.S k \/ w.heap.size <= k
theorem BaseTo.refl {w : World} {X : BaseR} (h : BaseAt w X) : BaseTo w w X X := ⟨h, Chg.refl _ _, fun k hk => .inl hk⟩
theorem BaseTo.trans {w w1 w2 : World} {X Y Z : BaseR} (h : BaseTo w w1 X Y) (k : BaseTo w1 w2 Y Z) : BaseTo w w2 X Z :=
 ⟨k.at', h.chg.trans k.chg h.new, fun i hi => by
  rcases k.new i hi with h1 | h1
  ·exact h.new i h1
  ·exact .inr (Nat.le_trans h.chg.size h1)⟩
theorem BaseTo.below {w w1 : World} {X : BaseR} (h : BaseAt w X) (hb : Below w.heap.size w w1) : BaseTo w w1 X X := ⟨(h.on.below hb).holds, Chg.of_below hb, fun k hk => .inl hk⟩
theorem BaseTo.keep {w w' : World} {X X' : BaseR} {S : BSet} {P : World -> Prop} (h : BaseTo w w' X X') (ho : On S P w) (hd : ∀ k, S k -> ¬ X.S k) : On S P w' /\ ∀ k, S k -> ¬ X'.S k :=
 ⟨ho.chg h.chg hd, fun k hk hx => by
  rcases h.new k hx with h1 | h1
  ·exact hd k hk h1
  ·have := ho.lt k hk; omega⟩
theorem BaseAt.tr_to {w w' : World} {X : BaseR} {av' : Value} {N' : List Nat} {c' : Nat} {R' : List Nat} (h : BaseAt w X) (hD : Dev w' X.D av' N') (hT : TrAt w' X.t X.D.d c' R') (hR : R'.length = 32) (hc : Chg (fun i => i = X.t \/ devS X.D X.av i) w w') (hn : ∀ k, devS X.D av' k -> devS X.D X.av k \/ w.heap.size <= k) :
  BaseTo w w' X { X with av := av', N := N', c := c', R := R' } := by
 have hnew : ∀ k, devS X.D av' k -> k ≠ X.t /\ ¬ X.sS k /\ ¬ X.bS k := fun k hk => by
  rcases hn k hk with h1 | h1
  ·exact ⟨fun e => h.dt (e ▸ h1), h.ds k h1, h.db k h1⟩
  ·exact ⟨fun e => by have := lt_blk h.tr; omega, fun e => by have := h.sl.on.lt k e; omega, fun e => by have := h.bk.on.lt k e; omega⟩
 refine ⟨⟨hD, hT, (h.sl.on.chg hc fun k hk e => ?_).holds, (h.bk.on.chg hc fun k hk e => ?_).holds, hR, h.geo, h.len, h.key, fun e => (hnew _ e).1 rfl, h.st, h.bt, fun k hk => (hnew k hk).2.1, fun k hk => (hnew k hk).2.2, h.sb⟩, hc.mono fun k _ hk => ?_, fun k hk => ?_⟩
 ·rcases e with rfl | e
  ·exact h.st hk
  ·exact h.ds k e hk
 ·rcases e with rfl | e
  ·exact h.bt hk
  ·exact h.db k e hk
 ·rcases hk with rfl | hk
  ·exact .inr (.inl rfl)
  ·exact .inl hk
 ·rcases hk with hk | hk
  ·rcases hn k hk with h1 | h1
   ·exact .inl (.inl h1)
   ·exact .inr h1
  ·exact .inl (.inr hk)
theorem BaseAt.dev_to {w w' : World} {X : BaseR} {av' : Value} {N' : List Nat} (h : BaseAt w X) (hD : Dev w' X.D av' N') (hc : Chg (devS X.D X.av) w w') (hn : ∀ k, devS X.D av' k -> devS X.D X.av k \/ w.heap.size <= k) :
  BaseTo w w' X { X with av := av', N := N' } :=
 h.tr_to hD (h.tr.on.chg hc fun k hk e => h.dt (hk ▸ e)).holds h.rl (hc.mono fun k _ hk => .inr hk) hn
theorem BaseAt.bk_to {w w' : World} {X : BaseR} {TS' : List (List Nat)} (h : BaseAt w X) (hB : BkTo w w' X.b X.tb X.mb X.E TS') : ∃ cl' E', BaseTo w w' X { X with cl := cl', E := E', TS := TS' } := by
 obtain ⟨cl', E', h1, h2, h3⟩ := hB
 have hc : Chg X.bS w w' := h2.mono fun k _ hk => by
  rcases hk with e | e
  ·exact .inl e
  ·exact .inr (.inr (.inl e))
 have hnew : ∀ k, bkS X.b X.tb X.mb E' k -> k ≠ X.t /\ ¬ X.sS k /\ ¬ X.dS k := fun k hk => by
  rcases h3 k hk with h4 | h4
  ·exact ⟨fun e => h.bt (e ▸ h4), fun e => h.sb k e h4, fun e => h.db k e h4⟩
  ·exact ⟨fun e => by have := lt_blk h.tr; omega, fun e => by have := h.sl.on.lt k e; omega, fun e => by have := h.dev.on.lt k e; omega⟩
 refine ⟨cl', E', ⟨(h.dev.on.chg hc fun k hk e => h.db k hk e).holds, (h.tr.on.chg hc fun k hk e => h.bt (hk ▸ e)).holds, (h.sl.on.chg hc fun k hk e => h.sb k hk e).holds, h1, h.rl, h.geo, h.len, h.key, h.dt, h.st, fun e => (hnew _ e).1 rfl, h.ds, fun k hk e => (hnew k e).2.2 hk, fun k hk e => (hnew k e).2.1 hk⟩,
  hc.mono fun k _ hk => .inr (.inr (.inr hk)), fun k hk => ?_⟩
 rcases hk with hk | hk | hk | hk
 ·exact .inl (.inl hk)
 ·exact .inl (.inr (.inl hk))
 ·exact .inl (.inr (.inr (.inl hk)))
 ·rcases h3 k hk with h4 | h4
  ·exact .inl (.inr (.inr (.inr h4)))
  ·exact .inr h4
theorem BaseAt.sl_to {w w' : World} {X : BaseR} {M' : List NEnt} (h : BaseAt w X) (hS : SlN w' X.s X.m X.K M') (hc : Chg (· = X.m) w w') (hn : ∀ k, slnS X.s X.m X.K M' k -> X.sS k \/ w.heap.size <= k) : BaseTo w w' X { X with M := M' } := by
 have hc2 : Chg X.sS w w' := hc.mono fun k _ hk => .inr (.inr (.inr (.inr (.inl hk))))
 have hnew : ∀ k, slnS X.s X.m X.K M' k -> k ≠ X.t /\ ¬ X.bS k /\ ¬ X.dS k := fun k hk => by
  rcases hn k hk with h4 | h4
  ·exact ⟨fun e => h.st (e ▸ h4), fun e => h.sb k h4 e, fun e => h.ds k e h4⟩
  ·exact ⟨fun e => by have := lt_blk h.tr; omega, fun e => by have := h.bk.on.lt k e; omega, fun e => by have := h.dev.on.lt k e; omega⟩
 refine ⟨⟨(h.dev.on.chg hc2 fun k hk e => h.ds k hk e).holds, (h.tr.on.chg hc2 fun k hk e => h.st (hk ▸ e)).holds, hS, (h.bk.on.chg hc2 fun k hk e => h.sb k e hk).holds, h.rl, h.geo, h.len, h.key, h.dt, fun e => (hnew _ e).1 rfl, h.bt, fun k hk e => (hnew k e).2.2 hk, h.db, fun k hk => (hnew k hk).2.1⟩,
  hc2.mono fun k _ hk => .inr (.inr (.inl hk)), fun k hk => ?_⟩
 rcases hk with hk | hk | hk | hk
 ·exact .inl (.inl hk)
 ·exact .inl (.inr (.inl hk))
 ·rcases hn k hk with h4 | h4
  ·exact .inl (.inr (.inr (.inl h4)))
  ·exact .inr h4
 ·exact .inl (.inr (.inr (.inr hk)))
def baseV (X : BaseR) : Array Value := #[.pointer (some ⟨X.D.d, 0, none⟩), .pointer (some ⟨X.t, 0, none⟩), .pointer (some ⟨X.s, 0, none⟩), .pointer (some ⟨X.b, 0, none⟩), .int .i64 (X.n : Int), .int .i64 (X.x : Int)]
theorem base6 : (Tryz.prog.info? 90).map (·.size) = some 6 := by kernel_rfl
end Go.Proofs.YtnmdjggdgakeoaaGreat
