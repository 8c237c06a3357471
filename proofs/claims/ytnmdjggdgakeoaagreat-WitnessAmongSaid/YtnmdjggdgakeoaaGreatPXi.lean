/- Lemmas for the proof. -/
import Derived.Test.YtnmdjggdgakeoaaGreatPXh
import Derived.Test.YtnmdjggdgakeoaaGreatPXc
import Derived.Test.YtnmdjggdgakeoaaGreatPXf
import Derived.Test.YtnmdjggdgakeoaaGreatPXb
import Derived.Test.YtnmdjggdgakeoaaGreatPXg
import Derived.Deep.CutRange
import Derived.Deep.MidRow
import Derived.Laws.BytesString
import Derived.Laws.IdiomStrings
import Derived.Lib.BufferRead
import Derived.Maps.AppendAt
import Derived.Maps.Keyed
import Derived.DeepKeys4
import Derived.Carry
set_option maxRecDepth 100000
set_option maxHeartbeats 16000000
set_option linter.unusedVariables false
set_option linter.unusedSimpArgs false
set_option linter.unusedSectionVars false
namespace Go.Proofs.YtnmdjggdgakeoaaGreat
open Go Go.RowKit GfM
def xorL (l1 l2 : List Nat) : List Nat := (List.range l1.length).map fun j => l1.getD j 0 ^^^ l2.getD j 0
theorem xorL_len (l1 l2 : List Nat) : (xorL l1 l2).length = l1.length := by simp [xorL]
theorem xorL_get (l1 l2 : List Nat) (j : Nat) (h : j < l1.length) : (xorL l1 l2).getD j 0 = l1.getD j 0 ^^^ l2.getD j 0 := by simp [xorL, h]
theorem wxor_c (a1 a2 : Option Addr) (c1 c2 : Nat) (l1 l2 : List Nat) (n : Nat) (e1 : l1.length = n) (e2 : l2.length = n) (hn : n <= 65536) (w : World) (h1 : BytesAt w a1 c1 l1) (h2 : BytesAt w a2 c2 l2) :
  Calls Tryz.prog 342 #[.slice a1 n c1, .slice a2 n c2] w fun e w' =>
   ∃ q, e = .returned (.slice (some ⟨q, 0, none⟩) n n) /\ w.heap.size <= q /\ w'.heap[q]? = some (.cells (bA (xorL l1 l2)) 5 (0, 0)) /\ Below w.heap.size w w' := by
 have hmk := mk_bytes n (by omega)
 have hl : (xorL l1 l2).length = n := by rw [xorL_len, e1]
 have hs : (w.alloc (.cells (bA (List.replicate n 0)) 5)).heap[w.heap.size]? = some (.cells (bA (partB (xorL l1 l2) 0)) 5 (0, 0)) := by
  rw [partB_zero, hl, heap_new']
 have HS := Lib.hid hs;have HL := Lib.hid hl;have HE1 := Lib.hid e1;have HE2 := Lib.hid e2;have H1 := Lib.hid h1;have H2 := Lib.hid h2;have hmin : min (n : Int) (n : Int) = (n : Int) := by omega
 clear hs hl e1 e2 h1 h2
 go_enter Tryz.func342, Tryz.ntmps342
 go_wp2
 go_loopw [15] (fun vi wr => ∃ k : Nat, k <= n /\ vi = .int .i64 k /\ Hid (wr.heap[w.heap.size]? = some (.cells (bA (partB (xorL l1 l2) k)) 5 (0, 0))) /\ Hid (Below w.heap.size w wr)) (fun vi _ => n - (intOf vi).toNat)
 case atStart => exact ⟨0, by omega, rfl, HS.out, (Below.refl _ _).alloc (Nat.le_refl _) _⟩
 case round =>
  obtain ⟨k, hk, rfl, hb, hbel⟩ := hrel
  clear HS hmk hmin
  by_cases hlt : k < n
  ·obtain ⟨g1, o1, rfl, hc1, hg1, hcell1⟩ := H1.out.2 (by rw [HE1.out]; omega)
   obtain ⟨g2, o2, rfl, hc2, hg2, hcell2⟩ := H2.out.2 (by rw [HE2.out]; omega)
   have HV1 := getD_lt H1.out.1 k
   have HV2 := getD_lt H2.out.1 k
   have cl1 := (hbel.out.cell (p := ⟨g1, o1 + k, none⟩) hg1).trans (hcell1 k (by rw [HE1.out]; exact hlt))
   have cl2 := (hbel.out.cell (p := ⟨g2, o2 + k, none⟩) hg2).trans (hcell2 k (by rw [HE2.out]; exact hlt))
   have hget := xorL_get l1 l2 k (by rw [HE1.out]; exact hlt)
   obtain ⟨x, hx⟩ : ∃ x, x = l1.getD k 0 := ⟨_, rfl⟩
   obtain ⟨y, hy⟩ : ∃ y, y = l2.getD k 0 := ⟨_, rfl⟩
   rw [<- hx] at cl1 HV1 hget;rw [<- hy] at cl2 HV2 hget;have HG := Lib.hid hget;have f0 := free_at hb.out k
   have c0 := (cells_at hb.out k).trans (bA_get _ k (by rw [partB_len _ _ (by rw [HL.out]; exact hk), HL.out]; exact hlt))
   have hxr : bits BinOp.xor IntKind.u8 (x : Int) (y : Int) = ((x ^^^ y : Nat) : Int) := u8x rfl rfl HV1 HV2
   have hd : decide ((k : Int) < (n : Int)) = true := by simp; omega
   have d6 : (k : Int) < (n : Int) := by omega
   have d7 : ¬ (k : Int) < 0 := by omega
   clear hx hy hget HV1 HV2 hcell1 hcell2;go_wp2
   refine wp_region_still_tail 12 (by kernel_rfl) (by kernel_rfl) ?_
   simp only [List.take_succ_cons, List.take_zero, List.drop_succ_cons, List.drop_zero]
   change wpStill _ _ wr.drew _ _ _
   repeat still_step
   refine wpStill_nil ?_
   change wpList _ _ _ _ _ wr.drew
   have n0 := block_at hb.out k (.int .u8 ((x ^^^ y : Nat) : Int))
   rw [bA_set, <- HG.out, partB_set _ _ (by rw [HL.out]; exact hlt), HG.out] at n0
   have N0 := Lib.hid n0
   clear n0;go_wp2
   go_roundw
   case rel => exact ⟨k + 1, by omega, by go_num, N0.out, (hbel.out.setCell (by simp) _).drew⟩
   case measure => simp [intOf]; omega
  ·obtain rfl : k = n := by omega
   have h1 := hb.out
   have h2 := partB_full (xorL l1 l2)
   rw [HL.out] at h2;rw [h2] at h1;have HH1 := Lib.hid h1;have hd : decide ((k : Int) < (k : Int)) = false := by simp
   clear h1 h2 hb;go_wp2
   go_ret
   exact ⟨_, rfl, Nat.le_refl _, HH1.out, hbel.out⟩
theorem u8some : ∃ i, Tryz.prog.info? 5 = some i := by
 have h : (Tryz.prog.info? 5).isSome = true := by kernel_rfl
 exact Option.isSome_iff_exists.1 h
theorem u8plain : Tryz.prog.plainKey 5 = true := by kernel_rfl
theorem u8cells : Tryz.prog.cellsOf 5 = 1 := by kernel_rfl
theorem quiet_row {P : Program} {ops : Array Oper} {C : World -> Prop} {Q : Act -> Prop} {rest : List Oper} {o : Oper} {a : Act} (hgd : Region.wanted o (yielded ops a.tmps) = true) (ty : TypeId) (x : Operand) (ho : o.op = .load ty x)
  (g : Nat) (hx : a.eval x = .pointer (some ⟨g, 0, none⟩)) (t : TypeId) (cs : Array Value) (fr : Nat × Nat) (d : TypeDesc) (hg : ∀ w, C w -> w.heap[g]? = some (.cells cs t fr))
  (hu : P.underlying ty = some d) (hd : (match d with | .struct _ | .array _ _ => true | _ => false) = true) (hi : (P.info? ty).map (·.size) = some cs.size)
  (h : wpQuiet P ops C Q rest (a.put o.dst (.agg cs))) : wpQuiet P ops C Q (o :: rest) a :=
 wpQuiet_step fun K hK => by
  rw [if_pos hgd]
  refine ⟨.agg cs, fun w hw => ?_, hK _ h⟩
  unfold Oper.quietAt execOp
  simp only [ho, hx, Instr.loadAt, Instr.sureAddr, Sem.run_bind, Sem.run_pure, Result.andThen_ok, run_loadVar_row w g t ty cs fr d (hg w hw) hu hd hi]
  exact ⟨rfl, rfl⟩
theorem stream_bad (v : Value) (e b : Int) (n : Int) (h : n < 1 \/ n > 65536) (w : World) : Calls Tryz.prog 343 #[v, .int .u64 e, .int .u32 b, .int .i64 n] w fun r w' => r = .returned (.slice none 0 0) /\ w = w' := by
 by_cases h1 : n < 1
 ·have d1 : decide (n < 1) = true := by simp; omega
  go_enter Tryz.func343, Tryz.ntmps343
  go_wp2
  go_ret
  exact ⟨rfl, rfl⟩
 ·have d1 : decide (n < 1) = false := by simp; omega
  have d2 : decide (n > 65536) = true := by simp; omega
  go_enter Tryz.func343, Tryz.ntmps343
  go_wp2
  go_ret
  exact ⟨rfl, rfl⟩
def strL (key : List Nat) (e b n : Nat) : List Nat := (List.range n).map fun j => (encK key (ctrB e b (j / 16))).getD (j % 16) 0
theorem strL_len (key : List Nat) (e b n : Nat) : (strL key e b n).length = n := by simp [strL]
theorem strL_get (key : List Nat) (e b n j : Nat) (h : j < n) : (strL key e b n).getD j 0 = (encK key (ctrB e b (j / 16))).getD (j % 16) 0 := by simp [strL, h]
theorem strL_lt {key : List Nat} (hkl : key.length = 16 \/ key.length = 32) (hW : ∀ x ∈ wordsK key, x < 256) (e b n : Nat) : ∀ x ∈ strL key e b n, x < 256 := by
 intro x hx;simp only [strL, List.mem_map] at hx
 obtain ⟨j, _, rfl⟩ := hx
 exact (encK_by hkl (ctrB_by e b _) hW).2 _ (by omega)
theorem apply_c {c bx g n0 cp : Nat} {key : List Nat} (hkl : key.length = 16 \/ key.length = 32) (e b : Nat) (he : e < 18446744073709551616) (hb : b < 4294967296) (a : Option Addr) (cap : Nat) (l : List Nat) (n : Nat) (hl : l.length = n) (hn : n <= 65536) (w : World)
  (hC : Cip w c bx g n0 cp (roundsK key) (wordsK key)) (hB : BytesAt w a cap l) :
  Calls Tryz.prog 289 #[.pointer (some ⟨c, 0, none⟩), .int .u64 (e : Int), .int .u32 (b : Int), .slice a n cap] w fun r w' =>
   ∃ q, r = .returned (.slice (some ⟨q, 0, none⟩) n n) /\ w.heap.size <= q /\ w'.heap[q]? = some (.cells (bA (xorL l (strL key e b n))) 5 (0, 0)) /\ Below w.heap.size w w' := by
 have hst : ∃ (s : Option Addr) (sc : Nat), True := ⟨none, 0, trivial⟩
 have hS : Calls Tryz.prog 343 #[.pointer (some ⟨c, 0, none⟩), .int .u64 (e : Int), .int .u32 (b : Int), .int .i64 (n : Int)] w fun r w' => ∃ s sc, r = .returned (.slice s n sc) /\ BytesAt w' s sc (strL key e b n) /\ Below w.heap.size w w' := by
  by_cases h0 : n = 0
  ·subst h0
   refine (stream_bad _ (e : Int) (b : Int) ((0 : Nat) : Int) (by omega) w).mono ?_
   rintro r w' ⟨rfl, rfl⟩
   exact ⟨none, 0, rfl, ⟨by simp [strL], fun h => by simp [strL] at h⟩, Below.refl _ _⟩
  ·refine (stream_c hkl e b n he hb (by omega) hn w hC).mono ?_
   rintro r w' ⟨q, rfl, h1, h2, h3, h4⟩
   refine ⟨_, n, rfl, ⟨strL_lt hkl hC.fbyte e b n, fun _ => ⟨q, 0, rfl, by rw [strL_len]; exact Nat.le_refl _, h2, fun j hj => ?_⟩⟩, h4⟩
   rw [strL_len] at hj;rw [Nat.zero_add, h3 j hj, strL_get _ _ _ _ _ hj]
 have HS := Lib.hid hS;have HB := Lib.hid hB;have HL := Lib.hid hl;clear hS hB hl hst hkl hC he hb
 go_enter Tryz.func289, Tryz.ntmps289
 go_wp2_with fail
 refine HS.out.mono ?_
 rintro r w1 ⟨s, sc, rfl, hs, hb1⟩
 have HB1 := Lib.hid hb1;have HSS := Lib.hid hs;clear hs hb1;go_wp2_with fail
 refine (wxor_c a s cap sc l (strL key e b n) n HL.out (strL_len _ _ _ _) hn w1 (HB.out.up HB1.out (Nat.le_refl _)) HSS.out).mono ?_
 rintro r w2 ⟨q, rfl, hq, hq2, hb2⟩
 have HQ := Lib.hid hq2;have HQ1 := Lib.hid hq;have HB2 := Lib.hid (HB1.out.trans (hb2.mono HB1.out.size))
 clear hb2 hq2 hq;go_wp2
 go_ret
 exact ⟨q, rfl, Nat.le_trans HB1.out.size HQ1.out, HQ.out, HB2.out⟩
theorem may_c (s blk : Nat) (hb : blk < 65536) (a : Option Addr) (cap : Nat) (w : World) :
  Calls Tryz.prog 288 #[.pointer (some ⟨s, 0, none⟩), .int .i64 (blk : Int), .slice a 256 cap] w fun e w' => e = .returned (.int .i64 0) /\ w = w' := by
 have h1 : decide ((blk : Int) < 0) = false := by simp
 have h2 : decide ((blk : Int) >= 65536) = false := by simp; omega
 have h3 : ¬ (blk : Int) < 0 := by omega
 have h4 : ¬ (65536 : Int) <= (blk : Int) := by omega
 go_enter Tryz.func288, Tryz.ntmps288
 go_wp2
 go_ret
 exact ⟨rfl, rfl⟩
def nonV (x : Nat × Nat) : Value := .agg #[.int .u64 (x.1 : Int), .int .i64 (x.2 : Int)]
theorem non_wide : (match Tryz.prog.underlying 411 with | some (.array _ _) | some (.struct _) => true | _ => false) = true := by kernel_rfl
theorem non_keyed : Go.Maps.Keyed Tryz.prog 411 := Go.Maps.Keyed.of_law (deep_law (m := 3) (by omega) (by kernel_rfl) (by kernel_rfl) non_wide)
theorem c85 : Tryz.prog.cellsOf 411 = 2 := by kernel_rfl
theorem c41 : Tryz.prog.cellsOf 47 = 1 := by kernel_rfl
theorem c3 : Tryz.prog.cellsOf 3 = 1 := by kernel_rfl
theorem non_lits (d e b : Nat) (he : (Lit.int .u64 (e : Int)).wf = true) (hb : (Lit.int .i64 (b : Int)).wf = true) : Tryz.prog.keyLits (d + 2) 411 [.int .u64 (e : Int), .int .i64 (b : Int)] = some [.int .u64 (e : Int), .int .i64 (b : Int)] := by
 simp [Program.keyLits, Tryz.underlying411, Tryz.underlying47, Tryz.underlying3, c85, c41, c3, he, hb]
 done
theorem non_key (x : Nat × Nat) (h1 : x.1 < 18446744073709551616) (h2 : x.2 < 9223372036854775808) : ∃ l, Go.keyOf Tryz.prog 411 (nonV x) = some l := by
 have he : (Lit.int .u64 (x.1 : Int)).wf = true := by
  have hmin : IntKind.u64.min = 0 := rfl
  have hmax : IntKind.u64.max = 18446744073709551615 := rfl
  simp only [Lit.wf, Bool.and_eq_true, decide_eq_true_eq]; omega
 have hb : (Lit.int .i64 (x.2 : Int)).wf = true := by
  have hmin : IntKind.i64.min = -9223372036854775808 := rfl
  have hmax : IntKind.i64.max = 9223372036854775807 := rfl
  simp only [Lit.wf, Bool.and_eq_true, decide_eq_true_eq]; omega
 have hk : Tryz.prog.keyType 411 = true := by kernel_rfl
 have hf : (nonV x).formed Tryz.prog 411 = true := by
  unfold nonV;simp [Value.formed, Tryz.underlying411, c85]
 obtain ⟨d, hd⟩ : ∃ d, Tryz.prog.types.size + 1 = d + 2 := by
  have h0 : decide (0 < Tryz.prog.types.size) = true := by kernel_rfl
  have h0' := of_decide_eq_true h0
  exact ⟨Tryz.prog.types.size - 1, by omega⟩
 refine ⟨.string (keyBytes [.int .u64 (x.1 : Int), .int .i64 (x.2 : Int)]), ?_⟩
 unfold Go.keyOf
 rw [Tryz.underlying411]
 simp only [hk, hf, Bool.and_self, if_true, hd]
 rw [show (nonV x).cells.toList = [.int .u64 (x.1 : Int), .int .i64 (x.2 : Int)] from rfl, non_lits d _ _ he hb]
 rfl
def entV (q cp : Nat) : Value := .slice (some ⟨q, 0, none⟩) 256 cp
structure EntIs (w : World) (e : MapEntry) (x : (Nat × Nat) × List Nat) : Prop where
 key : e.key = nonV x.1
 rng : x.1.1 < 18446744073709551616 /\ x.1.2 < 9223372036854775808
 val : ∃ q cp, e.val = entV q cp /\ BytesAt w (some ⟨q, 0, none⟩) cp x.2
 len : x.2.length = 256
theorem EntIs.up {w w' : World} {e : MapEntry} {x : (Nat × Nat) × List Nat} (h : EntIs w e x) {B : Nat} (hb : Below B w w') (hB : w.heap.size <= B) : EntIs w' e x := by
 obtain ⟨q, cp, h1, h2⟩ := h.val
 exact ⟨h.key, h.rng, ⟨q, cp, h1, h2.up hb hB⟩, h.len⟩
def BornIs (es : Array MapEntry) (clock : Nat) : Prop := clock = es.size /\ ∀ (i : Nat) e, es[i]? = some e -> e.born = i
def MapIs (w : World) (m : Nat) (M : List ((Nat × Nat) × List Nat)) : Prop :=
 ∃ es clock, w.heap[m]? = some (.map es clock) /\ es.size = M.length /\ (∀ (i : Nat) e x, es[i]? = some e -> M[i]? = some x -> EntIs w e x) /\ M.Pairwise (fun x y => x.1 ≠ y.1) /\ BornIs es clock
theorem nonV_inj {x y : Nat × Nat} (h : nonV x = nonV y) : x = y := by
 obtain ⟨a, b⟩ := x; obtain ⟨c, d⟩ := y
 simp [nonV] at h
 exact Prod.ext (by omega) (by omega)
def TwIs (w : World) (tv : Value) : Option (Nat × Nat) -> Prop
 | none => tv = .slice none 0 0
 | some x => ∃ g cp, tv = .slice (some ⟨g, 0, none⟩) 1 cp /\ g < w.heap.size /\ w.cell? ⟨g, 0, none⟩ = some (.int .u64 (x.1 : Int)) /\ w.cell? ⟨g, 1, none⟩ = some (.int .i64 (x.2 : Int))
structure Slr (w : World) (B s m : Nat) (key : List Nat) (M : List ((Nat × Nat) × List Nat)) (T : Option (Nat × Nat)) : Prop where
 blk : ∃ c tv, w.heap[s]? = some (.cells #[.pointer (some ⟨c, 0, none⟩), .map (some m), tv] 170 (0, 0)) /\ (∃ b g n cp, Cip w c b g n cp (roundsK key) (wordsK key)) /\ TwIs w tv T
 map : MapIs w m M
 ms : B <= s
 mm : B <= m
theorem MapIs.lt {w : World} {m : Nat} {M : List ((Nat × Nat) × List Nat)} (h : MapIs w m M) : m < w.heap.size := by
 obtain ⟨es, clock, hb, _⟩ := h
 exact (Array.getElem?_eq_some_iff.1 hb).1
theorem MapIs.up {w w' : World} {m : Nat} {M : List ((Nat × Nat) × List Nat)} (h : MapIs w m M) {B : Nat} (hb : Below B w w') (hB : w.heap.size <= B) : MapIs w' m M := by
 have hlt := h.lt
 obtain ⟨es, clock, h1, h2, h3, h4⟩ := h
 exact ⟨es, clock, (hb.block m (Nat.lt_of_lt_of_le hlt hB)).trans h1, h2, fun i e x he hx => (h3 i e x he hx).up hb hB, h4⟩
theorem TwIs.up {w w' : World} {tv : Value} {T : Option (Nat × Nat)} (h : TwIs w tv T) {B : Nat} (hb : Below B w w') (hB : w.heap.size <= B) : TwIs w' tv T := by
 cases T with
 | none => exact h
 | some x =>
  obtain ⟨g, cp, h1, h2, h3, h4⟩ := h
  exact ⟨g, cp, h1, Nat.lt_of_lt_of_le h2 hb.size, (hb.cell (p := ⟨g, 0, none⟩) (Nat.lt_of_lt_of_le h2 hB)).trans h3, (hb.cell (p := ⟨g, 1, none⟩) (Nat.lt_of_lt_of_le h2 hB)).trans h4⟩
theorem Slr.up {w w' : World} {C s m : Nat} {key : List Nat} {M : List ((Nat × Nat) × List Nat)} {T : Option (Nat × Nat)} (h : Slr w C s m key M T) {B : Nat} (hb : Below B w w') (hB : w.heap.size <= B) : Slr w' C s m key M T := by
 obtain ⟨⟨c, tv, h1, ⟨b, g, n, cp, h2⟩, h3⟩, h4, h5, h6⟩ := h
 exact ⟨⟨c, tv, (hb.block s (Nat.lt_of_lt_of_le (lt_of_block h1) hB)).trans h1, ⟨b, g, n, cp, h2.up hb hB⟩, h3.up hb hB⟩, h4.up hb hB, h5, h6⟩
theorem wpList_makeMap {P : Program} {w : World} {ops : Array Oper} {rest : List Oper} {o : Oper} {A : Act} {Q : Exit -> Act -> World -> Prop} (hgd : o.guard = none) (t : TypeId) (ho : o.op = .makeMap t none)
  (hK : wpList P ops Q rest (A.put o.dst (.map (some w.heap.size))) (w.alloc (.map #[] 0))) : wpList P ops Q (o :: rest) A w :=
 wpList_plain hgd fun _ hk => by
  unfold Oper.wp execOp
  simp only [ho]
  exact hk _ _ hK
theorem snew_c (c : Nat) (w : World) :
  Calls Tryz.prog 50 #[.pointer (some ⟨c, 0, none⟩)] w fun e w' => e = .returned (.pointer (some ⟨w.heap.size + 1, 0, none⟩)) /\ w' = (w.alloc (.map #[] 0)).alloc (.cells #[.pointer (some ⟨c, 0, none⟩), .map (some w.heap.size), .slice none 0 0] 170) := by
 go_enter Tryz.func50, Tryz.ntmps50
 go_wp2_with (first
  | (refine wpList_makeMap rfl 167 rfl ?_)
  | fail)
 go_ret
 exact ⟨by simp, rfl⟩
abbrev MapM := List ((Nat × Nat) × List Nat)
theorem two85 : (Tryz.prog.info? 411).map (·.size) = some 2 := by kernel_rfl
theorem wp_mapput {o : Oper} {a : Act} {w w' : World} {K : Act -> World -> Prop} {Q : Exit -> Act -> World -> Prop} (mo x v : Operand) (m : Nat) (n : Nat × Nat) (q cp : Nat) (ho : o.op = .mapUpdate 167 mo x v)
  (hm : a.eval mo = .map (some m)) (hx : a.eval x = nonV n) (hv : a.eval v = entV q cp) (hrun : (Instr.mapUpdate 167 (.map (some m)) (nonV n) (entV q cp)).run Tryz.prog w = .ok () w') (hK : K (a.put o.dst undef) w') : o.wp Tryz.prog a w K Q := by
 unfold Oper.wp
 simp [execOp, ho, hm, hx, hv, hrun, Result.andThen]
 exact hK
theorem quiet_look {ops : Array Oper} {C : World -> Prop} {Q : Act -> Prop} {rest : List Oper} {o : Oper} {a : Act} (hgd : Region.wanted o (yielded ops a.tmps) = true) (mo x : Operand) (ho : o.op = .lookup 167 mo x true)
  (m : Nat) (n : Nat × Nat) (r : Value) (hm : a.eval mo = .map (some m)) (hx : a.eval x = nonV n) (hrun : ∀ w, C w -> (Instr.lookup 167 (.map (some m)) (nonV n) true).run Tryz.prog w = .ok r w)
  (h : wpQuiet Tryz.prog ops C Q rest (a.put o.dst r)) : wpQuiet Tryz.prog ops C Q (o :: rest) a :=
 wpQuiet_step fun K hK => by
  rw [if_pos hgd]
  refine ⟨r, fun w hw => ?_, hK _ h⟩
  unfold Oper.quietAt execOp
  simp only [ho, hm, hx, Sem.run_bind, hrun w hw, Result.andThen_ok]
  exact ⟨rfl, rfl⟩
def But (B m : Nat) (w w' : World) : Prop := Below B w w' /\ ∀ k, k < w.heap.size -> k ≠ m -> w'.heap[k]? = w.heap[k]?
theorem But.refl (B m : Nat) (w : World) : But B m w w := ⟨Below.refl _ _, fun _ _ _ => rfl⟩
theorem But.trans {B m : Nat} {a b c : World} (h : But B m a b) (k : But B m b c) : But B m a c :=
 ⟨h.1.trans k.1, fun i hi hne => (k.2 i (Nat.lt_of_lt_of_le hi h.1.size) hne).trans (h.2 i hi hne)⟩
theorem But.of_below {B m : Nat} {a b : World} (h : Below a.heap.size a b) (hB : B <= a.heap.size) : But B m a b := ⟨h.mono hB, fun k hk _ => h.block k hk⟩
theorem Slr.cell {w : World} {B s m : Nat} {key : List Nat} {M : MapM} {T : Option (Nat × Nat)} (h : Slr w B s m key M T) : ∃ c tv, w.heap[s]? = some (.cells #[.pointer (some ⟨c, 0, none⟩), .map (some m), tv] 170 (0, 0)) /\ TwIs w tv T := by
 obtain ⟨⟨c, tv, h1, _, h3⟩, _⟩ := h
 exact ⟨c, tv, h1, h3⟩
theorem Cip.keep {w w' : World} {c b g n cap r : Nat} {W : List Nat} (h : Cip w c b g n cap r W) (hk : ∀ k A t z, w.heap[k]? = some (.cells A t z) -> k = c \/ k = b \/ k = g -> w'.heap[k]? = w.heap[k]?) : Cip w' c b g n cap r W := by
 obtain ⟨h1, h2, h3, h3a, h3b, ⟨A, h4, h4b, h5⟩, h6⟩ := h
 exact ⟨(hk _ _ _ _ h1 (by simp)).trans h1, (hk _ _ _ _ h2 (by simp)).trans h2, h3, h3a, h3b, ⟨A, (hk _ _ _ _ h4 (by simp)).trans h4, h4b, h5⟩, h6⟩
theorem range_row {w : World} {g : Nat} {A : Array Value} {t : TypeId} (h : w.heap[g]? = some (.cells A t (0, 0))) : w.rangeAt g 0 A.toList := by
 intro j v hv;rw [Nat.zero_add, cells_at h j]
 rw [Array.getElem?_toList] at hv
 exact hv
theorem bytes_keepo {w w' : World} {q o cap : Nat} {l : List Nat} (hB : BytesAt w (some ⟨q, o, none⟩) cap l) (he : w'.heap[q]? = w.heap[q]?) : BytesAt w' (some ⟨q, o, none⟩) cap l := by
 refine ⟨hB.1, fun h0 => ?_⟩
 obtain ⟨g, o, h1, h2, h3, h4⟩ := hB.2 h0
 cases h1
 refine ⟨_, _, rfl, h2, ?_, fun j hj => ?_⟩
 ·have := he.trans (Array.getElem?_eq_getElem h3)
  exact (Array.getElem?_eq_some_iff.1 this).1
 ·rw [<- h4 j hj]; simp [World.cell?, he]
theorem bytes_apart {w : World} {q o cap : Nat} {l : List Nat} (hB : BytesAt w (some ⟨q, o, none⟩) cap l) (hl : 4 < l.length) {k : Nat} {ob : Obj} (hk : w.heap[k]? = some ob) (h : (∃ es c, ob = .map es c) \/ ∃ A t z, ob = .cells A t z /\ A.size = 3) : q ≠ k := by
 rintro rfl
 obtain ⟨g, o, h1, h2, h3, h4⟩ := hB.2 (by omega)
 cases h1
 have := h4 4 hl
 rcases h with ⟨es, c, rfl⟩ | ⟨A, t, z, rfl, hA⟩
 ·simp [World.cell?, hk] at this
 ·rw [cells_at hk (o + 4)] at this
  have := (Array.getElem?_eq_some_iff.1 this).1
  omega
structure KeyC where
 key : List Nat
 c : Nat
 b : Nat
 g : Nat
 n : Nat
 cp : Nat
def goodN (x : Nat × Nat) : Prop := x.1 < 18446744073709551616 /\ x.2 < 9223372036854775808
theorem nonKT : KeyTy Tryz.prog 411 22 167 nonV goodN :=
 ⟨Tryz.underlying167, non_keyed, fun x h => non_key x h.1 h.2, fun _ _ h => nonV_inj h, fun w => by first | rfl | go_simp⟩
abbrev NEnt := MEnt (Nat × Nat)
structure SlN (w : World) (s m : Nat) (K : KeyC) (M : List NEnt) : Prop where
 blk : w.heap[s]? = some (.cells #[.pointer (some ⟨K.c, 0, none⟩), .map (some m), .slice none 0 0] 170 (0, 0))
 cip : Cip w K.c K.b K.g K.n K.cp (roundsK K.key) (wordsK K.key)
 map : MapB nonV goodN w m M
def slnS (s m : Nat) (K : KeyC) (M : List NEnt) : BSet := fun k => k = s \/ k = K.c \/ k = K.b \/ k = K.g \/ mapS m M k
theorem SlN.on {w : World} {s m : Nat} {K : KeyC} {M : List NEnt} (h : SlN w s m K M) : On (slnS s m K M) (fun w => SlN w s m K M) w := by
 have hm := h.map.on
 obtain ⟨A', h4, _⟩ := h.cip.fwords
 refine ⟨h, ?_, fun w' he => ⟨(he s (.inl rfl)).trans h.blk, ?_, hm.keep w' fun k hk => he k (.inr (.inr (.inr (.inr hk))))⟩⟩
 ·rintro k (rfl | rfl | rfl | rfl | hk)
  ·exact lt_of_block h.blk
  ·exact lt_of_block h.cip.fcells
  ·exact lt_of_block h.cip.fbox
  ·exact lt_of_block h4
  ·exact hm.lt k hk
 ·refine h.cip.keep fun k A t z _ hor => he k ?_
  rcases hor with rfl | rfl | rfl
  ·exact .inr (.inl rfl)
  ·exact .inr (.inr (.inl rfl))
  ·exact .inr (.inr (.inr (.inl rfl)))
theorem SlN.same {w w' : World} {s m : Nat} {K : KeyC} {M : List NEnt} (h : SlN w s m K M) (he : ∀ k, slnS s m K M k -> w'.heap[k]? = w.heap[k]?) : SlN w' s m K M := h.on.keep w' he
theorem SlN.below {w w' : World} {s m : Nat} {K : KeyC} {M : List NEnt} (h : SlN w s m K M) (hb : Below w.heap.size w w') : SlN w' s m K M := (h.on.below hb).holds
theorem SlN.made {w : World} {B s m : Nat} {key : List Nat} (h : Slr w B s m key [] none) : ∃ K, K.key = key /\ SlN w s m K [] := by
 obtain ⟨⟨c, tv, h1, ⟨b, g, n, cp, hC⟩, hT⟩, hM, _, _⟩ := h
 have ht : tv = .slice none 0 0 := hT
 subst ht;refine ⟨⟨key, c, b, g, n, cp⟩, rfl, h1, hC, ?_⟩
 obtain ⟨es, clock, e1, e2, _, _, e5, _⟩ := hM
 have hz : es.size = 0 := e2
 exact ⟨⟨es, clock, e1, e2, e5, fun i e x _ hx => by cases hx⟩, fun x hx => (by cases hx), List.Pairwise.nil⟩
theorem sealn_c {s m : Nat} {K : KeyC} {M : List NEnt} (hkl : K.key.length = 16 \/ K.key.length = 32) (e b : Nat) (he : e < 18446744073709551616) (hb : b < 65536) (hno : ∀ x ∈ M, x.k ≠ (e, b)) (a : Option Addr) (cap : Nat) (p : List Nat) (hp : p.length = 256) (w : World)
  (hS : SlN w s m K M) (hB : BytesAt w a cap p) :
  Calls Tryz.prog 259 #[.pointer (some ⟨s, 0, none⟩), .int .u64 (e : Int), .int .i64 (b : Int), .slice a 256 cap] w fun r w' =>
   ∃ q g6 c6, r = .returned (.tuple #[.slice (some ⟨q, 0, none⟩) 256 256, .int .i64 0]) /\ w.heap.size <= q /\ w.heap.size <= g6 /\ w'.heap[q]? = some (.cells (bA (xorL p (strL K.key e b 256))) 5 (0, 0)) /\ SlN w' s m K (M ++ [⟨(e, b), g6, c6, p⟩]) /\ Chg (· = m) w w' /\ ¬ slnS s m K (M ++ [⟨(e, b), g6, c6, p⟩]) q := by
 obtain ⟨qa, oa, rfl⟩ : ∃ qa oa, a = some ⟨qa, oa, none⟩ := by
  obtain ⟨g, o, h, _⟩ := hB.2 (by omega)
  exact ⟨g, o, h⟩
 have hend : ∀ (Wz : World) (M' : List NEnt), SlN Wz s m K M' -> BytesAt Wz (some ⟨qa, oa, none⟩) cap p -> Wz.cell? ⟨s, 0, none⟩ = some (.pointer (some ⟨K.c, 0, none⟩)) /\
   Hid (Calls Tryz.prog 289 #[.pointer (some ⟨K.c, 0, none⟩), .int .u64 (e : Int), .int .u32 (b : Int), .slice (some ⟨qa, oa, none⟩) 256 cap] Wz fun r w' =>
    ∃ q, r = .returned (.slice (some ⟨q, 0, none⟩) 256 256) /\ Wz.heap.size <= q /\ w'.heap[q]? = some (.cells (bA (xorL p (strL K.key e b 256))) 5 (0, 0)) /\ Below Wz.heap.size Wz w') := by
  intro Wz M' h hB'
  exact ⟨(cells_at h.blk 0).trans rfl, apply_c hkl e b he (by omega) _ cap p 256 hp (by omega) Wz h.cip hB'⟩
 have e1 : IntKind.u32.wrap (b : Int) = (b : Int) := by rw [IntKind.wrap_u32]; omega
 have HEND := Lib.hid hend;have HNO := Lib.hid hno;have HS := Lib.hid hS;have HB := Lib.hid hB;have HP := Lib.hid hp;have HBB := Lib.hid hb;have HE := Lib.hid he;clear hend hkl hno hS hB hp he hb
 go_enter Tryz.func259, Tryz.ntmps259
 go_wp2_with fail
 refine (may_c s b HBB.out _ cap w).mono ?_
 rintro r w' ⟨rfl, rfl⟩
 go_wp2_with (first
  | (refine wpList_store_row rfl 411 (.tmp 11) (.tmp 23) rfl w.heap.size #[.int .u64 (e : Int), .int .i64 (b : Int)] rfl rfl 411 _ (heap_new' _ _) (by rw [two85]; rfl) (by rfl) (by simp [Value.oneCell']) ?_; generalize hW5 : World.setRow _ _ _ = W5; have HN5 : Hid (W5.heap[w.heap.size]? = some (.cells #[.int .u64 (e : Int), .int .i64 (b : Int)] 411 (0, 0))) := (by rw [<- hW5]; exact setRow_heap _ _ _ _ _ _ (heap_new' _ _)); have HB5 : Hid (Below w.heap.size w W5) := (by rw [<- hW5]; exact below_setRow ((Below.refl _ _).alloc (Nat.le_refl _) _) (Nat.le_refl _) _); clear hW5)
  | fail)
 obtain ⟨WD, hWD⟩ : ∃ WD, WD = W5.drew := ⟨_, rfl⟩
 have HBD : Hid (Below w.heap.size w WD) := by rw [hWD]; exact HB5.out.drew
 have HND : Hid (WD.heap[w.heap.size]? = some (.cells #[.int .u64 (e : Int), .int .i64 (b : Int)] 411 (0, 0))) := by rw [hWD]; exact HN5.out
 have HSD : Hid (SlN WD s m K M) := HS.out.below HBD.out
 have HPD : Hid (BytesAt WD (some ⟨qa, oa, none⟩) cap p) := HB.out.up HBD.out (Nat.le_refl _)
 obtain ⟨f, hf⟩ : ∃ f : Unit -> World, ∀ u, f u = WD := ⟨fun _ => WD, fun _ => rfl⟩
 have hblk := HSD.out.blk
 have HBLK := Lib.hid hblk;have c1 : ∀ u, (f u).cell? ⟨s, 1, none⟩ = some (.map (some m)) := fun u => by rw [hf]; exact (cells_at HBLK.out 1).trans rfl
 have HKN : Hid (∀ u, (f u).heap[w.heap.size]? = some (.cells #[.int .u64 (e : Int), .int .i64 (b : Int)] 411 (0, 0))) := fun u => by rw [hf]; exact HND.out
 have HF := Lib.hid hf;have HF0 : Hid (∃ u, W5.drew = f u) := ⟨(), by rw [hf, hWD]⟩
 clear hblk hf hWD HN5 HB5;rcases HSD.out.map.look nonKT (e, b) ⟨HE.out, by have := HBB.out; simp only []; omega⟩ with ⟨hrun, _⟩ | ⟨x, hx, hxn, _⟩
 rotate_left
 ·exact absurd hxn (HNO.out x hx)
 ·have HRUN : Hid (∀ w', (∃ u, w' = f u) -> (Instr.lookup 167 (.map (some m)) (nonV (e, b)) true).run Tryz.prog w' = .ok (.tuple #[.slice none 0 0, .bool false]) w') := by
   rintro _ ⟨u, rfl⟩; rw [HF.out]; exact hrun
  clear hrun;refine wp_region_quiet (C := fun w' => ∃ u, w' = f u) (by kernel_rfl) (by kernel_rfl) HF0.out ?_
  try simp only [Act.put, List.setIfInBounds_toArray, List.set_cons_succ, List.set_cons_zero]
  repeat first
   | (refine quiet_row rfl 411 (.tmp 11) rfl w.heap.size rfl 411 #[.int .u64 (e : Int), .int .i64 (b : Int)] (0, 0) _ (by rintro _ ⟨x, rfl⟩; exact HKN.out x) Tryz.underlying411 rfl (by rw [two85]; rfl) ?_; simp only [Act.put, List.setIfInBounds_toArray, List.set_cons_succ, List.set_cons_zero])
   | (refine quiet_look rfl (.tmp 28) (.tmp 29) rfl m (e, b) (.tuple #[.slice none 0 0, .bool false]) rfl rfl HRUN.out ?_; simp only [Act.put, List.setIfInBounds_toArray, List.set_cons_succ, List.set_cons_zero])
   | go_big_quiet_step (fail)
  refine wpQuiet_nil ?_
  rintro _ ⟨u0, rfl⟩
  rw [HF.out];clear HKN c1 HF0 HRUN HF;go_wp2
  have hSE : SlN WD.drew s m K M := HSD.out.below (Below.refl _ _).drew
  have hPE : BytesAt WD.drew (some ⟨qa, oa, none⟩) cap p := HPD.out
  have hne : s ≠ m := by rintro rfl; obtain ⟨es, clock, h, _⟩ := HSD.out.map.ex; rw [HBLK.out] at h; cases h
  have HC1 : Hid (∀ w', But 0 m WD w' -> w'.cell? ⟨s, 1, none⟩ = some (.map (some m))) := fun w' h => (cells_at ((h.2 s (lt_of_block HBLK.out) hne).trans HBLK.out) 1).trans rfl
  have hnm : w.heap.size ≠ m := by have := HS.out.map.on.lt m (.inl rfl); omega
  have HCN : Hid (∀ w', But 0 m WD w' -> w'.rangeAt w.heap.size 0 (#[.int .u64 (e : Int), .int .i64 (b : Int)] : Array Value).toList) := fun w' h => range_row ((h.2 _ (lt_of_block HND.out) hnm).trans HND.out)
  have hS0 : But 0 m WD WD.drew := ⟨(Below.refl _ _).drew, fun _ _ _ => rfl⟩
  refine wp_region_held_drew (S := fun w' => But 0 m WD w') (by kernel_rfl) hS0 ?_
  intro hS;clear hS0 hS;have hS : But 0 m WD WD.drew := ⟨(Below.refl _ _).drew, fun _ _ _ => rfl⟩
  generalize WD.drew = WE at hS hSE hPE ⊢
  change wpAnyH _ _ _ _ _ 8 #[false, false, false, false, false, false, false, false] _ _
  refine wpAnyH_take (i := 0) (v := ?_) rfl (by kernel_rfl) (by kernel_rfl) (by kernel_rfl) (fun _ _ _ h => h) (Or.inl ⟨by rfl, ?hy⟩) hS ?_
  case hy => intro w' hSw; go_simp; try with_reducible rfl
  simp only [gA, gS, gZ, Act.put, sA, sZ, sS]
  refine wpAnyH_take (i := 1) (v := ?_) rfl (by kernel_rfl) (by kernel_rfl) (by kernel_rfl) (fun _ _ _ h => h) (Or.inl ⟨by rfl, ?hy⟩) hS ?_
  case hy => intro w' hSw; go_simp; try with_reducible rfl
  simp only [gA, gS, gZ, Act.put, sA, sZ, sS]
  refine wpAnyH_take (i := 2) (v := ?_) rfl (by kernel_rfl) (by kernel_rfl) (by kernel_rfl) (fun _ _ _ h => h) (Or.inl ⟨by rfl, ?hy⟩) hS ?_
  case hy => intro w' hSw; go_simp; try with_reducible rfl
  simp only [gA, gS, gZ, Act.put, sA, sZ, sS]
  refine wpAnyH_take (i := 3) (v := ?_) rfl (by kernel_rfl) (by kernel_rfl) (by kernel_rfl) (fun _ _ _ h => h) (Or.inl ⟨by rfl, ?hy⟩) hS ?_
  case hy => intro w' hSw; have hq := HC1.out _ hSw; go_simp; try with_reducible rfl
  simp only [gA, gS, gZ, Act.put, sA, sZ, sS]
  refine wpAnyH_take (i := 4) rfl (by kernel_rfl) (by kernel_rfl) (by kernel_rfl) (fun _ _ _ h => h) (yieldsIf_load_mid (by rfl) _ _ rfl (w.heap.size) 0 rfl _ _ (fun w' h => HCN.out w' h) Tryz.underlying411 rfl (by rw [two85]; rfl)) hS ?_
  simp only [gA, gS, gZ, Act.put, sA, sZ, sS]
  refine wpAnyH_take (i := 5) (v := ?_) rfl (by kernel_rfl) (by kernel_rfl) (by kernel_rfl) (fun _ _ _ h => h) (Or.inl ⟨by rfl, ?hy⟩) hS ?_
  case hy => intro w' hSw; go_simp; try with_reducible rfl
  simp only [gA, gS, gZ, Act.put, sA, sZ, sS]
  refine wpAnyH_ready (rs := [6]) (by kernel_rfl) (by simp) ?_
  refine AllReadyH.cons rfl (fun K hK => ?_) AllReadyH.nil
  rw [if_pos (by rfl)]
  go_simp
  refine (clone_c qa oa cap 256 p HP.out (by omega) WE hPE (by omega)).mono ?_
  rintro r w6 ⟨g6, cp6, rfl, hg6, hB6, hb6⟩
  refine hK.out _ _ (hS.trans (But.of_below hb6 (Nat.zero_le _))) (fun hS6 => ?_)
  clear hK K;simp only [gA, gS, gZ, Act.put, sA, sZ, sS]
  have hS6' := hSE.below hb6
  obtain ⟨w7, hrun7, hM7, hgr7, hsz7⟩ := hS6'.map.put nonKT (e, b) ⟨HE.out, by have := HBB.out; simp only []; omega⟩ HNO.out g6 cp6 p (by rw [HP.out]; decide) hB6 (by have := hSE.map.on.lt m (.inl rfl); omega) hS6'.map.qne
  rw [HP.out] at hrun7;refine wpAnyH_ready (rs := [7]) (by kernel_rfl) (by simp) ?_
  refine AllReadyH.cons rfl (fun K hK => ?_) AllReadyH.nil
  rw [if_pos (by rfl)]
  refine wp_mapput (.tmp 39) (.tmp 40) (.tmp 42) m (e, b) g6 cp6 rfl rfl rfl rfl hrun7 ?_
  refine hK.out _ _ (hS6.trans ⟨hgr7.below (Nat.zero_le _) (fun _ _ => Nat.zero_le _), fun k hk hne => hgr7.block k hk hne⟩) (fun hS7 => ?_)
  clear hK K;simp only [gA, gS, gZ, Act.put, sA, sZ, sS]
  change wpAnyH _ _ _ _ _ 0 _ _ _
  refine wpAnyH_done (by kernel_rfl) ?_ _
  have hms : ∀ k, k = s \/ k = K.c \/ k = K.b \/ k = K.g -> w7.heap[k]? = w6.heap[k]? := by
   intro k hk;obtain ⟨es, clock, hbm, _⟩ := hS6'.map.ex
   obtain ⟨A', h4, _⟩ := hS6'.cip.fwords
   refine hgr7.block k ?_ ?_
   ·rcases hk with rfl | rfl | rfl | rfl
    ·exact lt_of_block hS6'.blk
    ·exact lt_of_block hS6'.cip.fcells
    ·exact lt_of_block hS6'.cip.fbox
    ·exact lt_of_block h4
   ·rintro rfl
    rcases hk with rfl | rfl | rfl | rfl
    ·have := hS6'.blk; rw [hbm] at this; cases this
    ·have := hS6'.cip.fcells; rw [hbm] at this; cases this
    ·have := hS6'.cip.fbox; unfold IsBox at this; rw [hbm] at this; cases this
    ·rw [hbm] at h4; cases h4
  have HSL : Hid (SlN w7 s m K (M ++ [⟨(e, b), g6, cp6, p⟩])) := ⟨(hms s (.inl rfl)).trans hS6'.blk, hS6'.cip.keep fun k A t z _ hor => hms k (.inr hor), hM7⟩
  have HG6 : Hid (w.heap.size <= g6) := Nat.le_trans HBD.out.size (Nat.le_trans hS.1.size hg6)
  have hqm : qa ≠ m := by obtain ⟨es, clock, h, _⟩ := HSD.out.map.ex; exact bytes_apart HPD.out (by rw [HP.out]; omega) h (.inl ⟨_, _, rfl⟩)
  have HPZ : Hid (BytesAt w7 (some ⟨qa, oa, none⟩) cap p) := bytes_keepo HPD.out (hS7.2 qa (by obtain ⟨g, o, h1, _, h3, _⟩ := HPD.out.2 (by rw [HP.out]; omega); cases h1; exact h3) hqm)
  have HFZ : Hid (Chg (· = m) w w7) := ⟨hS7.1.os.trans HBD.out.os, hS7.1.tape.trans HBD.out.tape, hS7.1.output.trans HBD.out.output, Nat.le_trans HBD.out.size hS7.1.size, fun k hk hn => (hS7.2 k (Nat.lt_of_lt_of_le hk HBD.out.size) hn).trans (HBD.out.block k hk)⟩
  have HSZ7 : Hid (w.heap.size <= w7.heap.size) := Nat.le_trans HBD.out.size hS7.1.size
  clear hS7 hgr7 hM7 hrun7 hS6 hb6 hB6 hg6 hPE hSE hS hS6' hsz7 hms;obtain ⟨hc', hap⟩ := HEND.out w7 _ HSL.out HPZ.out
  go_wp2_with fail
  refine hap.out.mono ?_
  rintro r w9 ⟨q, rfl, hq, hq2, hb9⟩
  have HQ := Lib.hid (And.intro hq (And.intro hq2 hb9))
  clear hq hq2 hb9;go_wp2
  go_ret2
  exact ⟨q, g6, cp6, rfl, Nat.le_trans HSZ7.out HQ.out.1, HG6.out, HQ.out.2.1, HSL.out.below HQ.out.2.2, HFZ.out.trans (Chg.of_below HQ.out.2.2) (fun i hi => .inl hi), fun hk => by have h1 := HSL.out.on.lt q hk; have h2 := HQ.out.1; omega⟩
theorem new_bad (a : Addr) (v : Option Addr) (len cap : Nat) (h1 : len ≠ 16) (h2 : len ≠ 32) (w : World) : Calls Tryz.prog 43 #[.pointer (some a), .slice v len cap] w fun e w' => e = .returned (.tuple #[.pointer none, .int .i64 1]) /\ w = w' := by
 have d1 : ((len : Int) != 16) = true := by simp; omega
 have d2 : ((len : Int) != 32) = true := by simp; omega
 go_enter Tryz.func43, Tryz.ntmps43
 go_wp2
 exact bodyPost_ret (v := .tuple #[.pointer none, .int .i64 1]) (by simp [results, Tryz.f43, go_sem]) rfl ⟨rfl, rfl⟩
end Go.Proofs.YtnmdjggdgakeoaaGreat
