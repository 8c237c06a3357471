/- Texts MapIt, SpK, SpC, SpS, put together by pack.py. -/
import Derived.Test.YtinjafacnekkcaaSPq
import Derived.Sort.MapsRangeIn
import Derived.RangeFuncSeq
import Derived.RangeFuncGives
import Derived.Test.YtinjafacnekkcaaSPr
import Derived.Test.YtinjafacnekkcaaSPs
import Derived.Test.YtinjafacnekkcaaSPk
import Derived.Shelf.SlIter.Collect
import Derived.Shelf.Small.Bits
set_option linter.unusedVariables false
set_option linter.unusedSimpArgs false
namespace Go.Proofs.Ytinjafacnekkcaa
open Go Go.RowKit
/-- the entries' stamps: in the order of their coming -/
def Stamped (es : Array MapEntry) (clock : Nat) : Prop := clock = es.size ∧ ∀ (i : Nat) e, es[i]? = some e → e.born = i
/-- the iterator r over map m: which entries have come -/
def IterAt (w : World) (r m : Nat) (es : Array MapEntry) (clock : Nat) (is : List Nat) : Prop :=
  ∃ c0, clock ≤ c0 ∧ w.heap[r]? = some (.mapIter (some m) clock is.toArray c0) ∧ w.heap[m]? = some (.map es clock)
theorem IterAt.of_walks {w w' : World} {r m : Nat} {es : Array MapEntry} {clock : Nat} {is : List Nat} (h : IterAt w r m es clock is) (hk : KeepsWalks w w') : IterAt w' r m es clock is := by
  obtain ⟨c0, h1, h2, h3⟩ := h
  exact ⟨c0, h1, hk.same r _ h2 rfl, hk.same m _ h3 rfl⟩
/-- how many entries are to come -/
def itLeft (r n : Nat) (w : World) : Nat := match w.heap[r]? with | some (.mapIter _ _ seen _) => n - seen.size | _ => 0
theorem IterAt.left {w : World} {r m : Nat} {es : Array MapEntry} {clock : Nat} {is : List Nat} (h : IterAt w r m es clock is) (n : Nat) : itLeft r n w = n - is.length := by
  obtain ⟨c0, _, h2, _⟩ := h
  unfold itLeft; rw [h2]; simp
theorem born_nodup {es : Array MapEntry} {clock : Nat} (hb : Stamped es clock) : (es.toList.map (·.born)).Nodup := by
  have : es.toList.map (·.born) = List.range es.size := by
    apply List.ext_getElem
    · simp
    · intro i h1 h2
      simp at h1
      simp only [List.getElem_map, List.getElem_range, Array.getElem_toList]
      exact hb.2 i _ (Array.getElem?_eq_getElem h1)
  rw [this]; exact List.nodup_range
theorem nodup_snoc {is : List Nat} {i : Nat} (h : is.Nodup) (hi : i ∉ is) : (is ++ [i]).Nodup :=
  List.nodup_append.2 ⟨h, by simp, fun a ha b hb => by simp at hb; subst hb; exact fun e => hi (e ▸ ha)⟩
theorem nodup_len : ∀ (n : Nat) {is : List Nat}, is.Nodup → (∀ i ∈ is, i < n) → is.length ≤ n
  | 0, is, _, h => by
    rcases is with _ | ⟨x, xs⟩
    · exact Nat.le_refl _
    · exact absurd (h x List.mem_cons_self) (by omega)
  | n + 1, is, hn, h => by
    by_cases hm : n ∈ is
    · have h1 := nodup_len n (hn.erase n) (fun i hi => by
        have := (hn.mem_erase_iff.1 hi); have := h i this.2; omega)
      rw [List.length_erase_of_mem hm] at h1
      omega
    · have := nodup_len n hn (fun i hi => by
        have h2 := h i hi
        have : i ≠ n := fun e => hm (e ▸ hi)
        omega)
      omega
/-- range m -/
theorem wpListIn_range_raw {F : Fence} {n : Nat} {P : Program} {w : World} {ops : Array Oper} {rest : List Oper} {o : Oper} {a : Act} {Q : Exit → Act → World → Prop} (hg : o.guard = none) (x : Operand) (t k e : TypeId) (hop : o.op = Op.range t x) (ht : P.underlying t = some (.map k e))
    (m : Nat) (es : Array MapEntry) (clock : Nat) (hx : a.eval x = .map (some m)) (hm : w.heap[m]? = some (.map es clock))
    (hK : ∀ w', IterAt w' w.heap.size m es clock [] → w.grownBy w' none → w'.heap.size = w.heap.size + 1 → wpListIn F n P ops Q rest (a.put o.dst (.pointer (some ⟨w.heap.size, 0, none⟩))) w') :
    wpListIn F n P ops Q (o :: rest) a w := by
  refine wpListIn_plain hg fun K' hK' => ?_
  unfold Oper.wpIn
  refine ⟨?_, ?_⟩
  · simp [Oper.about, hop]
  · rw [Oper.semAt_plain F _ _ (by rw [hop]; intro c hc'; cases hc')]
    simp [execOp, hop, hx, run_range_map w t k e m es clock ht hm, Result.andThen]
    refine hK' _ _ (hK _ ⟨clock, Nat.le_refl _, by rw [heap_alloc_new], ?_⟩ (World.grownBy_alloc w _ none) (by simp))
    exact (Below.heap_alloc w _ m (Array.getElem?_eq_some_iff.1 hm).1).trans hm
/-- the step -/
theorem wpListIn_next_raw {F : Fence} {n : Nat} {P : Program} {w : World} {ops : Array Oper} {rest : List Oper} {o : Oper} {a : Act} {Q : Exit → Act → World → Prop} (hg : o.guard = none) (it : Operand) (hop : o.op = Op.next it false)
    (r m : Nat) (es : Array MapEntry) (clock : Nat) (is : List Nat) (hit : a.eval it = .pointer (some ⟨r, 0, none⟩)) (h : IterAt w r m es clock is) (hb : Stamped es clock) (hne : r ≠ m)
    (hDone : (∀ i, i < es.size → i ∈ is) → wpListIn F n P ops Q rest (a.put o.dst (.tuple #[.bool false])) w)
    (hMore : ∀ (i : Nat) (e : MapEntry) (w' : World), es[i]? = some e → i ∉ is → IterAt w' r m es clock (is ++ [i]) → w.grownBy w' (some r) → w'.heap.size = w.heap.size →
      (Instr.entry (.pointer (some ⟨r, 0, none⟩))).run P w' = .ok (.tuple #[e.key, e.val]) w' → wpListIn F n P ops Q rest (a.put o.dst (.tuple #[.bool true, e.key, e.val])) w') :
    wpListIn F n P ops Q (o :: rest) a w := by
  refine wpListIn_plain hg fun K' hK' => ?_
  unfold Oper.wpIn
  refine ⟨by simp [Oper.about, hop], ?_⟩
  rw [Oper.semAt_plain F _ _ (by rw [hop]; intro c hc'; cases hc')]
  obtain ⟨c0, hc0, hr, hm⟩ := h
  have hold : ∀ x ∈ es.toList, x.born < clock := by
    intro x hx
    obtain ⟨i, hi, hix⟩ := List.getElem_of_mem hx
    have := hb.2 i x (by rw [← Array.getElem?_toList, List.getElem?_eq_getElem hi, hix])
    rw [hb.1, this]; simpa using hi
  rcases run_next_at (P := P) w o.type r m clock c0 is.toArray es clock hr hm hold hc0 with ⟨h0, hrun⟩ | ⟨e, he, w1, hw1, hrun⟩
  · simp [execOp, hop, hit, hrun, Result.andThen]
    refine hK' _ _ (hDone fun i hi => ?_)
    have he : es[i]? = some es[i] := Array.getElem?_eq_getElem hi
    have hbi := hb.2 i _ he
    have h1 : leftOf es is.toArray = #[] := Array.size_eq_zero_iff.1 h0
    unfold leftOf at h1
    rw [Array.filter_eq_empty_iff] at h1
    have := h1 es[i] (Array.getElem_mem hi)
    simpa [hbi] using this
  · simp [execOp, hop, hit, hrun, Result.andThen]
    have he2 : e ∈ es.toList ∧ e.born ∉ is := by
      unfold leftOf at he
      simp at he
      exact ⟨by simpa using he.1, he.2⟩
    obtain ⟨i, hi, hie⟩ := List.getElem_of_mem he2.1
    have hi' : es[i]? = some e := by rw [← Array.getElem?_toList, List.getElem?_eq_getElem hi, hie]
    have hbi := hb.2 i e hi'
    have hr1 : w1.heap[r]? = some (.mapIter (some m) clock is.toArray c0) := by rcases hw1 with rfl | rfl <;> exact hr
    have hm1 : w1.heap[m]? = some (.map es clock) := by rcases hw1 with rfl | rfl <;> exact hm
    have hg1 : w.grownBy w1 none := by
      rcases hw1 with rfl | rfl
      · exact World.grownBy.refl _ _
      · exact ⟨rfl, rfl, rfl, Nat.le_refl _, fun _ _ _ => rfl⟩
    have hs1 : w1.heap.size = w.heap.size := by rcases hw1 with rfl | rfl <;> rfl
    have hset : (ChangeMaps.setBlock w1 r (.mapIter (some m) clock (is ++ [e.born]).toArray clock)).heap[r]? = some (.mapIter (some m) clock (is ++ [e.born]).toArray clock) := by
      simp [ChangeMaps.setBlock, (Array.getElem?_eq_some_iff.1 hr1).1]
    have hset2 : ∀ k, k ≠ r → (ChangeMaps.setBlock w1 r (.mapIter (some m) clock (is ++ [e.born]).toArray clock)).heap[k]? = w1.heap[k]? := by
      intro k hk
      simp [ChangeMaps.setBlock, Array.getElem?_setIfInBounds, Ne.symm hk]
    have hm2 := (hset2 m (Ne.symm hne)).trans hm1
    refine hK' _ _ (hMore i e _ hi' (by rw [hbi] at he2; exact he2.2) ⟨clock, Nat.le_refl _, by rw [hset, hbi], hm2⟩ ⟨hg1.os, hg1.tape, hg1.output, by simp [ChangeMaps.setBlock, hs1], fun k hk hne2 => ?_⟩ (by simp [ChangeMaps.setBlock, hs1]) ?_)
    · exact (hset2 k (fun e => hne2 (by rw [e]))).trans (hg1.block k hk (by simp))
    · exact run_entry_at _ r m clock is.toArray es clock e (by rw [List.push_toArray]; exact hset) hm2 he2.1 (born_nodup hb)
end Go.Proofs.Ytinjafacnekkcaa
namespace Go.Proofs.Ytinjafacnekkcaa
open Go Go.RowKit GfM
attribute [local go_sem] Oper.semAt_some
theorem nonRT : RowTy Try.prog nonV encN 2 16 39 42 :=
  ⟨Try.underlying39, ⟨.agg #[.int .u64 0, .int .i64 0], by kernel_rfl, rfl⟩, fun x => rfl, fun _ => rfl, fun x v hv => by simp [encN] at hv; rcases hv with rfl | rfl <;> rfl, by decide⟩
def keyAt (M : List ((Nat × Nat) × List Nat)) (i : Nat) : Nat × Nat := (M.getD i ((0, 0), [])).1
theorem keys_all (M : List ((Nat × Nat) × List Nat)) : M.map (·.1) = (List.range M.length).map (keyAt M) := by
  apply List.ext_getElem
  · simp
  · intro i h1 h2
    have hi : i < M.length := by simpa using h1
    simp [keyAt, List.getD_eq_getElem?_getD, List.getElem?_eq_getElem hi]
theorem keys_perm (M : List ((Nat × Nat) × List Nat)) {is : List Nat} (h1 : is.Nodup) (h2 : ∀ i ∈ is, i < M.length) (h3 : ∀ i, i < M.length → i ∈ is) : (is.map (keyAt M)).Perm (M.map (·.1)) := by
  rw [keys_all]
  refine List.Perm.map _ ((List.perm_ext_iff_of_nodup h1 List.nodup_range).2 fun i => ?_)
  rw [List.mem_range]
  exact ⟨h2 i, h3 i⟩
set_option maxRecDepth 100000 in
set_option maxHeartbeats 1000000 in
theorem keysN_in (n : Nat) (hn : 1 ≤ n) (l Bm m : Nat) (M : List ((Nat × Nat) × List Nat)) (J : List (Nat × Nat) → World → Prop)
    (hY : ∀ pre x W, J pre W → pre.length < M.length → YieldAt Fence.wide (n - 1) Try.prog l #[nonV x] W fun e W' => e = .returned (.bool true) ∧ J (pre ++ [x]) W' ∧ KeepsWalks W W')
    (W : World) (hJ : AbidesFrom W.heap.size J) (hm : W.cell? ⟨Bm, 0, none⟩ = some (.map (some m))) (hM : MapIs W m M) (h0 : J [] W) :
    CallsIn Fence.wide n Try.prog 38 #[.func (.yield l) #[] #[], .pointer (some ⟨Bm, 0, none⟩)] W fun e W' => (∃ v, e = .returned v) ∧ ∃ xs, xs.Perm (M.map (·.1)) ∧ J xs W' := by
  obtain ⟨es, clock, hb, hlen, hF, hP, hB⟩ := hM
  have hml := lt_of_block hb
  have HB : Hid (Stamped es clock) := hB
  have HF := Lib.hid hF
  have HL := Lib.hid hlen
  clear hF hP hB hlen
  refine callsIn_of_wp Try.func38 rfl trivial ?_ rfl
  simp only [Try.ntmps38, List.size_toArray, List.length_cons, List.length_nil, Nat.reduceAdd, Nat.reduceSub, Array.replicate_succ, Array.replicate_zero, List.push_toArray, List.append_toArray, List.nil_append, List.cons_append]
  gi_wp2_with (first
    | (gi_at_range; refine wpListIn_range_raw rfl _ 71 42 _ rfl Try.underlying71 m es clock rfl hb ?_; intro w0 hit0 hg0 hs0)
    | fail)
  go_frame
  have HJ := Lib.hid hJ
  have HMB := Lib.hid hb
  clear hJ hb
  have hJ0 : J [] w0 := HJ.out [] W w0 none h0 hg0 (fun r e => by cases e)
  clear h0 hg0
  gi_loopw [3] (fun _ wr => ∃ is : List Nat, IterAt wr W.heap.size m es clock is ∧ is.Nodup ∧ (∀ i ∈ is, i < M.length) ∧ J (is.map (keyAt M)) wr ∧ W.heap.size < wr.heap.size)
    (fun _ wr => itLeft W.heap.size M.length wr)
  case atStart => exact ⟨[], hit0, List.nodup_nil, by simp, hJ0, by omega⟩
  case round =>
    obtain ⟨is, hit, hnd, hlt, hJs, hsz⟩ := hrel
    have HND := Lib.hid hnd
    have HLT := Lib.hid hlt
    have HIT := Lib.hid hit
    have HJS := Lib.hid hJs
    clear hnd hlt hit hJs hit0 hJ0
    have hne : W.heap.size ≠ m := by omega
    gi_wp2_with (first
      | (gi_at_next; refine wpListIn_next_raw rfl _ rfl W.heap.size m es clock is rfl HIT.out HB.out hne ?_ ?_)
      | fail)
    · intro hall
      gi_wp2
      go_end0
      exact ⟨⟨_, rfl⟩, _, keys_perm M HND.out HLT.out (fun i hi => hall i (by rw [HL.out]; exact hi)), HJS.out⟩
    · intro i e w2 hei hin hit2 hg2 hs2 hen
      have hil : i < M.length := by rw [← HL.out]; exact (Array.getElem?_eq_some_iff.1 hei).1
      have hkey : e.key = nonV (keyAt M i) := by
        have := (HF.out i e M[i] hei (List.getElem?_eq_getElem hil)).key
        rw [this]; simp [keyAt, List.getD_eq_getElem?_getD, List.getElem?_eq_getElem hil]
      rw [hkey] at hen ⊢
      have hJ2 : J (is.map (keyAt M)) w2 := HJ.out _ wr w2 (some W.heap.size) HJS.out hg2 (fun r e => by
        cases e
        obtain ⟨c0, _, h2, _⟩ := HIT.out
        exact ⟨Nat.le_refl _, _, h2, rfl⟩)
      obtain ⟨x, hx⟩ : ∃ x, keyAt M i = x := ⟨_, rfl⟩
      rw [hx] at hen ⊢
      have HJ2 := Lib.hid hJ2
      have HIT2 := Lib.hid hit2
      have HX := Lib.hid hx
      have HIN := Lib.hid hin
      clear hJ2 hit2 hx hin hkey hei hg2
      unfold nonV at hen ⊢
      have HJ3 : J (is.map (keyAt M)) (w2.alloc (.cells #[.int .u64 (x.1 : Int), .int .i64 (x.2 : Int)] 42)) :=
        HJ.out _ w2 _ none HJ2.out (World.grownBy_alloc w2 _ none) (fun r e => by cases e)
      have hln : (is.map (keyAt M)).length < M.length := by
        rw [List.length_map]
        have := nodup_len M.length (nodup_snoc HND.out HIN.out) (fun j hj => by
          rcases List.mem_append.1 hj with h | h
          · exact HLT.out j h
          · simp at h; omega)
        rw [List.length_append] at this; simp at this; omega
      obtain ⟨fn, tmps, assign, body, hy, hR⟩ := hY _ x _ HJ3 hln
      unfold nonV at hy
      have HR := Lib.hid hR
      have hk3 := KeepsWalks.alloc w2 (.cells #[.int .u64 (x.1 : Int), .int .i64 (x.2 : Int)] 42)
      have HIT3 := Lib.hid (HIT2.out.of_walks hk3)
      have HS3 : Hid (W.heap.size < (w2.alloc (.cells #[.int .u64 (x.1 : Int), .int .i64 (x.2 : Int)] 42)).heap.size) := by
        have := World.size_alloc w2 (.cells #[.int .u64 (x.1 : Int), .int .i64 (x.2 : Int)] 42)
        show _ < _
        rw [this]; omega
      have HLN := Lib.hid hln
      clear hR hk3 HJ3 HIT2 hY hln
      gi_wp2
      refine HR.out.mono ?_
      rintro e2 W4 ⟨rfl, hJ4, hk4⟩
      have HJ4 := Lib.hid hJ4
      have HIT4 := Lib.hid (HIT3.out.of_walks hk4)
      have HS4 : Hid (W.heap.size < W4.heap.size) := Nat.lt_of_lt_of_le HS3.out hk4.size
      clear hJ4 hk4
      gi_wp2
      go_roundw
      case rel =>
        refine ⟨is ++ [i], HIT4.out, nodup_snoc HND.out HIN.out, fun j hj => ?_, ?_, HS4.out⟩
        · rcases List.mem_append.1 hj with h | h
          · exact HLT.out j h
          · simp at h; omega
        · rw [List.map_append, List.map_cons, List.map_nil, HX.out]; exact HJ4.out
      case measure =>
        rw [HIT4.out.left M.length, HIT.out.left M.length]
        have := HLN.out
        simp at this ⊢
        omega
theorem keysN_gives (n : Nat) (hn : 1 ≤ n) (Bm m : Nat) (M : List ((Nat × Nat) × List Nat)) (w : World) (hBm : Bm < w.heap.size) (hm : w.cell? ⟨Bm, 0, none⟩ = some (.map (some m))) (hM : MapIs w m M) :
    SeqGives Fence.wide n Try.prog 38 #[.pointer (some ⟨Bm, 0, none⟩)] nonV (fun xs => xs.Perm (M.map (·.1))) M.length w := fun l J W hW hJ hY h0 => by
  have hM' : MapIs W m M := hM.up hW (Nat.le_refl _)
  exact keysN_in n hn l Bm m M J hY W hJ ((hW.cell (p := ⟨Bm, 0, none⟩) hBm).trans hm) hM' h0
end Go.Proofs.Ytinjafacnekkcaa
namespace Go.Proofs.Ytinjafacnekkcaa
open Go Go.RowKit GfM
attribute [local go_sem] Oper.semAt_some
/-- the first range over a function in a code: what it assigns, its body -/
def rfOf : Code → Option (Code × Code)
  | .rangeFunc _ _ a b => some (a, b)
  | .seq a b => (match rfOf a with | some o => some o | none => rfOf b)
  | .cond _ a b => (match rfOf a with | some o => some o | none => rfOf b)
  | .block _ b => rfOf b
  | .loop b => rfOf b
  | .scope b => rfOf b
  | _ => none
def apAB : {p : Code × Code // some p = (Try.f52.body.bind rfOf)} := ⟨_, rfl⟩
/-- the loop's record -/
def apRec (fn : FuncId) (sv : Value) (Bs D : Nat) (st : LoopState) (pend : Option Code) : Loop :=
  { state := st, pending := pend, fn, tmps := #[.slice none 0 0, sv, .pointer (some ⟨Bs, 0, none⟩), undef, .slice none 0 0, undef, sv, undef, undef, undef, undef, undef, undef], params := #[7], assign := apAB.1.1, body := apAB.1.2, defers := D }
/-- between two rounds -/
structure ApAt (w0 : World) (fn : FuncId) (sv : Value) (Bs l D : Nat) (ss : List (Nat × Nat)) (W : World) : Prop where
  box : ∃ v, W.heap[Bs]? = some (.cells #[v] 39 (0, 0)) ∧ W.ownsRow w0.heap.size 42 2 v ss.length (cellsK encN ss) ∧ (v = .slice none 0 0 ↔ ss = [])
  L : W.heap[l]? = some (.loop (apRec fn sv Bs D .ready none))
  K : W.heap[D]? = some (.deferred (some []))
  below : Below w0.heap.size w0 W
theorem ap_abides (w0 : World) (fn : FuncId) (sv : Value) (Bs l D B : Nat) (hB : w0.heap.size ≤ B) : AbidesFrom B (ApAt w0 fn sv Bs l D) := fun s W W' row h hg hrow => by
  have hrow' : ∀ r, row = some r → ∃ o : Obj, W.heap[r]? = some o ∧ o.isWalk = true := fun r e => (hrow r e).2
  obtain ⟨v, hv, hr, hn⟩ := h.box
  exact ⟨⟨v, (grownBy_keeps hg hrow' hv rfl).trans hv, ownsRow_abides_a hr hg hrow', hn⟩, (grownBy_keeps hg hrow' h.L rfl).trans h.L, (grownBy_keeps hg hrow' h.K rfl).trans h.K,
    h.below.grown hg h.below.size (fun k e => Nat.le_trans hB (hrow k e).1)⟩
set_option maxRecDepth 100000 in
set_option maxHeartbeats 2000000 in
theorem apYield (m : Nat) (w0 : World) (fn : FuncId) (hfn : Fence.wide.fn fn) (sv : Value) (Bs l D : Nat) (hBl : Bs ≠ l) (hDl : D ≠ l) (hDB : D ≠ Bs) (h0B : w0.heap.size ≤ Bs) (h0l : w0.heap.size ≤ l)
    (N : Nat) (hN : N ≤ 100000) (ss : List (Nat × Nat)) (x : Nat × Nat) (W : World) (h : ApAt w0 fn sv Bs l D ss W) (hlen : ss.length < N) :
    YieldAt Fence.wide m Try.prog l #[nonV x] W fun e W' => e = .returned (.bool true) ∧ ApAt w0 fn sv Bs l D (ss ++ [x]) W' ∧ KeepsWalks W W' := by
  obtain ⟨v, hv, hrow, _⟩ := h.box
  refine ⟨fn, #[.slice none 0 0, sv, .pointer (some ⟨Bs, 0, none⟩), undef, .slice none 0 0, undef, sv, nonV x, undef, undef, undef, undef, undef], apAB.1.1, apAB.1.2, by simpa [apRec] using run_yield (P := Try.prog) (args := #[nonV x]) h.L rfl, roundIn_of_wpIn hfn ?_⟩
  have hl : l < W.heap.size := (Array.getElem?_eq_some_iff.1 h.L).1
  have hBlt : Bs < W.heap.size := (Array.getElem?_eq_some_iff.1 hv).1
  have hDlt : D < W.heap.size := (Array.getElem?_eq_some_iff.1 h.K).1
  -- the variable's block
  obtain ⟨W1, hW1⟩ : ∃ W1, W1 = W.alloc (.cells #[.int .u64 (x.1 : Int), .int .i64 (x.2 : Int)] 42) := ⟨_, rfl⟩
  have hx1 : W1.heap[W.heap.size]? = some (.cells #[.int .u64 (x.1 : Int), .int .i64 (x.2 : Int)] 42 (0, 0)) := by rw [hW1]; exact heap_new' _ _
  have hold1 : ∀ k, k < W.heap.size → W1.heap[k]? = W.heap[k]? := fun k hk => by rw [hW1]; exact Below.heap_alloc _ _ k hk
  have hs1 : W1.heap.size = W.heap.size + 1 := by rw [hW1]; simp
  have hk1 : KeepsWalks W W1 := by rw [hW1]; exact KeepsWalks.alloc _ _
  have hrow1 : W1.ownsRow w0.heap.size 42 2 v ss.length (cellsK encN ss) := by rw [hW1]; exact hrow.alloc _
  have hb1 : Below w0.heap.size w0 W1 := by rw [hW1]; exact h.below.alloc h.below.size _
  have hL1 := (hold1 l hl).trans h.L
  have hv1 := (hold1 _ hBlt).trans hv
  have hK1 := (hold1 _ hDlt).trans h.K
  have hbr0 := run_beginRound (P := Try.prog) hL1 rfl
  obtain ⟨W3, hW3⟩ : ∃ W3, W1.putObj l (.loop { apRec fn sv Bs D .ready none with state := .busy }) = W3 := ⟨_, rfl⟩
  rw [hW3] at hbr0
  have hbr := hbr0
  rw [hW1] at hbr
  have hlx : l ≠ W.heap.size := by omega
  have hg3 : W1.grownBy W3 (some l) := by rw [← hW3]; exact grownBy_putObj_a _ _ _
  have hk3 : KeepsWalks W W3 := hk1.trans (by rw [← hW3]; exact KeepsWalks.putObj _ hL1 rfl)
  have hv3 : W3.heap[Bs]? = some (.cells #[v] 39 (0, 0)) := by rw [← hW3]; exact (World.putObj_heap_other hBl).trans hv1
  have hK3 : W3.heap[D]? = some (.deferred (some [])) := by rw [← hW3]; exact (World.putObj_heap_other hDl).trans hK1
  have hL3 : W3.heap[l]? = some (.loop { apRec fn sv Bs D .ready none with state := .busy }) := by rw [← hW3]; exact World.putObj_heap_same (by omega)
  have hx3 : W3.heap[W.heap.size]? = some (.cells #[.int .u64 (x.1 : Int), .int .i64 (x.2 : Int)] 42 (0, 0)) := by rw [← hW3]; exact (World.putObj_heap_other (Ne.symm hlx)).trans hx1
  have hrow3 : W3.ownsRow w0.heap.size 42 2 v ss.length (cellsK encN ss) := hrow1.kept hg3 (ownsRow_ne_a hrow1 hL1 (fun cur e => by cases e))
  have hb3 : Below w0.heap.size w0 W3 := hb1.grown hg3 hb1.size (fun k e => by cases e; exact h0l)
  have hs3 : W.heap.size + 1 ≤ W3.heap.size := by have := hg3.size; omega
  obtain ⟨hc3, hf3⟩ := cell_of_box_a hv3
  have c30 := cells_at hx3 0
  have c31 := cells_at hx3 1
  simp only [List.getElem?_toArray, List.getElem?_cons_zero, List.getElem?_cons_succ] at c30 c31
  have hw0 := h.below.size
  have HR3 := Lib.hid hrow3
  have HK3 := Lib.hid hK3
  have HL3 := Lib.hid hL3
  have HV3 := Lib.hid hv3
  have HB3 := Lib.hid hb3
  have HKW3 := Lib.hid hk3
  have HS3 := Lib.hid hs3
  have HLEN := Lib.hid hlen
  have HNN := Lib.hid hN
  have HW0 := Lib.hid hw0
  clear hW1 hW3 hrow3 hK3 hL3 hv3 hb3 hk3 hs3 hlen hN hx3 hold1 hrow1 hrow hv hv1 hK1 hL1 hg3 hk1 hb1 hs1 hx1 h hbr0 hw0
  unfold nonV
  simp only [apAB]
  gi_wp2_with (first
    | (refine nonRT.wpListIn_build (by decide) rfl (.tmp 9) rfl (p := x) rfl ?_)
    | (refine nonRT.wpListIn_append rfl (.tmp 8) (.tmp 10) rfl (v := v) (L := ss) rfl (HR3.out.alloc _) (M := [x]) rfl rfl (rowK_one (fun _ => rfl) (heap_new' _ _)) (by intro h; cases h) (by rintro _ ⟨⟩; rfl) (by have := HLEN.out; have := HNN.out; unfold maxLen; omega) (by have := HLEN.out; have := HNN.out; omega) (by have := HS3.out; have := HW0.out; rw [World.size_alloc]; omega) ?_; intro v' w4 hown4 hg4 hnil4
       have hold4 : ∀ (j : Nat) (o : Obj), W3.heap[j]? = some o → (∀ cur, o ≠ .cells cur 42 (0, 0)) → w4.heap[j]? = some o := fun j o hj hno => by
         have hjl := (Array.getElem?_eq_some_iff.1 hj).1
         refine (hg4.block j (by rw [World.size_alloc]; omega) ?_).trans ((Below.heap_alloc _ _ j hjl).trans hj)
         rcases ownsRow_ne_a HR3.out hj hno with e | e
         · rw [e]; simp
         · exact fun e' => e e'.symm
       have hv4 := hold4 Bs _ HV3.out (fun cur e => by cases e)
       have HL4 := Lib.hid (hold4 l _ HL3.out (fun cur e => by cases e))
       have HK4 := Lib.hid (hold4 D _ HK3.out (fun cur e => by cases e))
       obtain ⟨hc4, hf4⟩ := cell_of_box_a hv4
       have HV4 := Lib.hid hv4
       have HB4 : Hid (Below w0.heap.size w0 w4) := (HB3.out.alloc HB3.out.size _).grown hg4 (by have := HB3.out.size; rw [World.size_alloc]; omega) (fun k e => (HR3.out.lt k e).1)
       have HKW4 : Hid (KeepsWalks W w4) := (HKW3.out.trans (KeepsWalks.alloc _ _)).trans (KeepsWalks.of_grownBy hg4 (ownsRow_not_walk_a (HR3.out.alloc _)))
       obtain ⟨g', cap', hve⟩ : ∃ g' cap', v' = .slice (some ⟨g', 0, none⟩) (ss.length + 1) cap' := by
         rcases hown4.2 with ⟨_, h0⟩ | ⟨g', cap', cur', h1, _⟩
         · exact absurd h0 (by omega)
         · exact ⟨g', cap', h1⟩
       subst hve
       have HR4 := Lib.hid hown4
       clear hown4 hnil4 hg4 hold4 hv4)
    | fail)
  obtain ⟨w5, hw5⟩ : ∃ w5, w4.setCell ⟨Bs, 0, none⟩ (.slice (some ⟨g', 0, none⟩) (ss.length + 1) cap') = w5 := ⟨_, rfl⟩
  rw [hw5]
  have hg5 : w4.grownBy w5 (some Bs) := by rw [← hw5]; exact grownBy_setCell0_a _ _ _
  have hv5 : w5.heap[Bs]? = some (.cells #[.slice (some ⟨g', 0, none⟩) (ss.length + 1) cap'] 39 (0, 0)) := by rw [← hw5]; exact heap_setCell_box_a _ HV4.out
  have hL5 : w5.heap[l]? = some (.loop { apRec fn sv Bs D .ready none with state := .busy }) := (hg5.block l (Array.getElem?_eq_some_iff.1 HL4.out).1 (fun e => hBl (by cases e; rfl))).trans HL4.out
  have hK5 : w5.heap[D]? = some (.deferred (some [])) := (hg5.block D (Array.getElem?_eq_some_iff.1 HK4.out).1 (fun e => hDB (by cases e; rfl))).trans HK4.out
  have hrow5 := HR4.out.kept hg5 (ownsRow_ne_a HR4.out HV4.out (fun cur e => by cases e))
  have hl5 : l < w5.heap.size := (Array.getElem?_eq_some_iff.1 hL5).1
  have hb5 : Below w0.heap.size w0 w5 := HB4.out.grown hg5 HB4.out.size (fun k e => by cases e; exact h0B)
  have hk5 : KeepsWalks W w5 := HKW4.out.trans (by rw [← hw5]; exact KeepsWalks.setCell _ _ _)
  clear hw5
  refine ⟨_, _, run_endRound none hL5, rfl, ⟨⟨_, (World.putObj_heap_other hBl).trans hv5, ?_, by simp⟩, World.putObj_heap_same hl5, (World.putObj_heap_other hDl).trans hK5, hb5.grown (grownBy_putObj_a _ _ _) hb5.size (fun k e => by cases e; exact h0l)⟩, hk5.trans (KeepsWalks.putObj _ hL5 rfl)⟩
  have := hrow5.kept (grownBy_putObj_a w5 l (.loop { { apRec fn sv Bs D .ready none with state := .busy } with state := if (none : Option Code).isNone then .ready else .done, pending := none })) (ownsRow_ne_a hrow5 hL5 (fun cur e => by cases e))
  simpa using this
set_option maxRecDepth 100000 in
set_option maxHeartbeats 2000000 in
theorem appendSeqN_in (n : Nat) (hn : 2 ≤ n) (g : Nat) (lb : Array Value) (eg : ∀ args w, (callFunc g args).run Try.prog w = .ok (.enter g args) w)
    (S : List (Nat × Nat) → Prop) (N : Nat) (hN : N ≤ 100000) (w : World) (hseq : SeqGives Fence.wide (n - 1) Try.prog g lb nonV S N w) :
    CallsIn Fence.wide n Try.prog 52 #[.slice none 0 0, .func (.func g) #[] lb] w fun e w' => ∃ (v : Value) (ss : List (Nat × Nat)), e = .returned v ∧ S ss ∧ w'.ownsRow w.heap.size 42 2 v ss.length (cellsK encN ss) ∧ (v = .slice none 0 0 ↔ ss = []) ∧ Below w.heap.size w w' := by
  have h1 : 1 ≤ n := by omega
  refine callsIn_of_wp_marks Try.func52 rfl trivial ?_ rfl
  simp only [Try.ntmps52, List.size_toArray, List.length_cons, List.length_nil, Nat.reduceAdd, Nat.reduceSub, Array.replicate_succ, Array.replicate_zero, List.push_toArray, List.append_toArray, List.nil_append, List.cons_append]
  gi_wp2
  refine wpIn_rangeFunc ?_
  intro fn hfn
  rw [show Fence.wide.round = none from rfl]
  obtain ⟨W0, hW0⟩ : ∃ W0, w.alloc (.cells #[.slice none 0 0] 39) = W0 := ⟨_, rfl⟩
  have hs0 : W0.heap.size = w.heap.size + 1 := by rw [← hW0]; simp
  have hv0 : W0.heap[w.heap.size]? = some (.cells #[.slice none 0 0] 39 (0, 0)) := by rw [← hW0]; exact World.alloc_heap_new w _
  have hb0 : Below w.heap.size w W0 := by rw [← hW0]; exact (Below.refl _ w).alloc (Nat.le_refl _) _
  rw [hW0]
  obtain ⟨W1, hW1⟩ : ∃ W1, (W0.alloc (.deferred (some []))).alloc (.loop (apRec fn (.func (.func g) #[] lb) w.heap.size W0.heap.size .ready none)) = W1 := ⟨_, rfl⟩
  have hold : ∀ k, k < W0.heap.size → W1.heap[k]? = W0.heap[k]? := fun k hk => by
    rw [← hW1]; exact (Below.heap_alloc _ _ k (by simp; omega)).trans (Below.heap_alloc _ _ k hk)
  have hb1 : Below w.heap.size w W1 := by rw [← hW1]; exact (hb0.alloc hb0.size _).alloc (by have := hb0.size; simp; omega) _
  have hs1 : W1.heap.size = W0.heap.size + 2 := by rw [← hW1]; simp
  have hM : ApAt w fn (.func (.func g) #[] lb) w.heap.size (W0.heap.size + 1) W0.heap.size [] W1 :=
    ⟨⟨_, (hold w.heap.size (by omega)).trans hv0, ⟨rfl, .inl ⟨rfl, rfl⟩⟩, by simp⟩,
     by rw [← hW1]; have := World.alloc_heap_new (W0.alloc (.deferred (some []))) (.loop (apRec fn (.func (.func g) #[] lb) w.heap.size W0.heap.size .ready none)); rwa [World.size_alloc] at this,
     by rw [← hW1]; exact (Below.heap_alloc _ _ _ (by simp)).trans (World.alloc_heap_new W0 _), hb1⟩
  refine ⟨W0.heap.size + 1, [{ target := .collected W0.heap.size, args := #[] }], W1, { target := .fn (.func g) lb, args := #[.func (.yield (W0.heap.size + 1)) #[] #[]] }, W1, g,
    #[.func (.yield (W0.heap.size + 1)) #[] #[]] ++ lb, W1, ?_, ?_, ?_, ?_, fun _ => h1, ?_⟩
  · rw [← hW1]; exact run_enterLoop_outer _ _ _ _ _
  · simp [resolve, go_sem]
  · intro f' hf'; exact trivial
  · simp [invoke, go_sem, eg]
  · refine (hseq (W0.heap.size + 1) (ApAt w fn (.func (.func g) #[] lb) w.heap.size (W0.heap.size + 1) W0.heap.size) W1 hb1 (ap_abides _ _ _ _ _ _ _ hb1.size)
      (fun pre x W hJ hl => apYield (n - 1 - 1) w fn hfn _ w.heap.size (W0.heap.size + 1) W0.heap.size (by omega) (by omega) (by omega) (Nat.le_refl _) (by omega) N hN pre x W hJ hl) hM).mono ?_
    rintro e W2 ⟨⟨v0, rfl⟩, ss, hS, h2⟩
    obtain ⟨v, hv, hrow, hnil⟩ := h2.box
    have hend := run_endLoop (P := Try.prog) h2.L (by simp [apRec])
    obtain ⟨W3, hW3⟩ : ∃ W3, W2.putObj (W0.heap.size + 1) (.loop { apRec fn (.func (.func g) #[] lb) w.heap.size W0.heap.size .ready none with state := .exhausted }) = W3 := ⟨_, rfl⟩
    rw [hW3] at hend
    have hg3 : W2.grownBy W3 (some (W0.heap.size + 1)) := by rw [← hW3]; exact grownBy_putObj_a _ _ _
    have hv3 : W3.heap[w.heap.size]? = some (.cells #[v] 39 (0, 0)) := by rw [← hW3]; exact (World.putObj_heap_other (by omega)).trans hv
    have hK3 : W3.heap[W0.heap.size]? = some (.deferred (some [])) := by rw [← hW3]; exact (World.putObj_heap_other (by omega)).trans h2.K
    have hrow3 := hrow.kept hg3 (ownsRow_ne_a hrow h2.L (fun cur e => by cases e))
    have hb3 : Below w.heap.size w W3 := h2.below.grown hg3 h2.below.size (fun k e => by cases e; omega)
    obtain ⟨hc3, hf3⟩ := cell_of_box_a hv3
    clear hW3
    refine ⟨none, W3, hend, ?_⟩
    have HR3 := Lib.hid hrow3
    have HN3 := Lib.hid hnil
    have HB3 := Lib.hid hb3
    have HK3 := Lib.hid hK3
    have HS := Lib.hid hS
    have HS0 := Lib.hid hs0
    clear hrow3 hnil hb3 hK3 hS hM hold hb1 hs1 hv0 hb0 hseq h2 hrow hv hv3 hg3 hend hW0 hW1
    gi_wp2
    rw [← HS0.out]
    refine ⟨by simp, .inl ⟨_, _, rfl, run_takeDeferred HK3.out, ?_⟩⟩
    exact ⟨_, results_tmp rfl _ _ _, v, ss, rfl, HS.out, HR3.out.kept (grownBy_putObj_a _ _ _) (ownsRow_ne_a HR3.out HK3.out (fun cur e => by cases e)), HN3.out, HB3.out.grown (grownBy_putObj_a _ _ _) HB3.out.size (fun k e => by cases e; have := HS0.out; omega)⟩
end Go.Proofs.Ytinjafacnekkcaa
namespace Go.Proofs.Ytinjafacnekkcaa
open Go Go.RowKit Go.Shelf Go.Lib Go.Sort
def laySort_ren : Go.Shelf.Ren := ⟨fun | 6 => 37 | 15 => 54 | 14 => 53 | 28 => 70 | 29 => 71 | 20 => 62 | 21 => 63 | 22 => 64 | 23 => 65 | 24 => 66 | 25 => 67 | 26 => 68 | 27 => 69 | 46 => 80 | 47 => 81 | 48 => 82 | 49 => 83 | 50 => 84 | 57 => 90 | n => n, fun | 22 => 39 | 24 => 42 | 25 => 74 | 3 => 3 | 39 => 87 | 0 => 0 | 53 => 92 | 55 => 31 | 4 => 4 | 46 => 122 | 45 => 121 | 50 => 126 | 5 => 5 | 9 => 9 | 66 => 138 | 70 => 142 | 76 => 150 | 77 => 151 | n => n, fun | n => n⟩
theorem laySort : Go.Proofs.SlLaysF0.n6 Try.prog laySort_ren := {
  mixed := by kernel_rfl,
  f6 := ⟨"slices.SortFunc[[]garderobe/seal.Nonce,garderobe/seal.Nonce]", by decide, Try.func37.trans (congrArg some (by kernel_rfl))⟩,
  f14 := ⟨"slices.pdqsortCmpFunc[garderobe/seal.Nonce]", by decide, Try.func53.trans (congrArg some (by kernel_rfl))⟩,
  f15 := Try.func54.trans (congrArg some (by kernel_rfl)),
  f20 := ⟨"slices.insertionSortCmpFunc[garderobe/seal.Nonce]", by decide, Try.func62.trans (congrArg some (by kernel_rfl))⟩,
  f21 := ⟨"slices.heapSortCmpFunc[garderobe/seal.Nonce]", by decide, Try.func63.trans (congrArg some (by kernel_rfl))⟩,
  f22 := ⟨"slices.breakPatternsCmpFunc[garderobe/seal.Nonce]", by decide, Try.func64.trans (congrArg some (by kernel_rfl))⟩,
  f23 := ⟨"slices.choosePivotCmpFunc[garderobe/seal.Nonce]", by decide, Try.func65.trans (congrArg some (by kernel_rfl))⟩,
  f24 := ⟨"slices.reverseRangeCmpFunc[garderobe/seal.Nonce]", by decide, Try.func66.trans (congrArg some (by kernel_rfl))⟩,
  f25 := ⟨"slices.partialInsertionSortCmpFunc[garderobe/seal.Nonce]", by decide, Try.func67.trans (congrArg some (by kernel_rfl))⟩,
  f26 := ⟨"slices.partitionEqualCmpFunc[garderobe/seal.Nonce]", by decide, Try.func68.trans (congrArg some (by kernel_rfl))⟩,
  f27 := ⟨"slices.partitionCmpFunc[garderobe/seal.Nonce]", by decide, Try.func69.trans (congrArg some (by kernel_rfl))⟩,
  f28 := Try.func70.trans (congrArg some (by kernel_rfl)),
  f29 := Try.func71.trans (congrArg some (by kernel_rfl)),
  f46 := ⟨"slices.siftDownCmpFunc[garderobe/seal.Nonce]", by decide, Try.func80.trans (congrArg some (by kernel_rfl))⟩,
  f47 := Try.func81.trans (congrArg some (by kernel_rfl)),
  f48 := Try.func82.trans (congrArg some (by kernel_rfl)),
  f49 := ⟨"slices.medianAdjacentCmpFunc[garderobe/seal.Nonce]", by decide, Try.func83.trans (congrArg some (by kernel_rfl))⟩,
  f50 := ⟨"slices.medianCmpFunc[garderobe/seal.Nonce]", by decide, Try.func84.trans (congrArg some (by kernel_rfl))⟩,
  f57 := ⟨"slices.order2CmpFunc[garderobe/seal.Nonce]", by decide, Try.func90.trans (congrArg some (by kernel_rfl))⟩,
  t0 := Try.underlying0,
  a0 := Try.isAgg0,
  z0 := Try.sizeOf0,
  v0 := Try.zeroValue0,
  t3 := Try.underlying3,
  a3 := Try.isAgg3,
  z3 := Try.sizeOf3,
  v3 := Try.zeroValue3,
  t4 := Try.underlying4,
  a4 := Try.isAgg4,
  z4 := Try.sizeOf4,
  v4 := Try.zeroValue4,
  t5 := Try.underlying5,
  a5 := Try.isAgg5,
  z5 := Try.sizeOf5,
  v5 := Try.zeroValue5,
  t9 := Try.underlying9,
  a9 := Try.isAgg9,
  z9 := Try.sizeOf9,
  v9 := Try.zeroValue9,
  t22 := Try.underlying39,
  a22 := Try.isAgg39,
  z22 := Try.sizeOf39,
  v22 := Try.zeroValue39,
  t25 := Try.underlying74,
  a25 := Try.isAgg74,
  z25 := Try.sizeOf74,
  v25 := Try.zeroValue74,
  t39 := Try.underlying87,
  a39 := Try.isAgg87,
  z39 := Try.sizeOf87,
  v39 := Try.zeroValue87,
  t45 := Try.underlying121,
  a45 := Try.isAgg121,
  z45 := Try.sizeOf121,
  v45 := Try.zeroValue121,
  t46 := Try.underlying122,
  a46 := Try.isAgg122,
  z46 := Try.sizeOf122,
  v46 := Try.zeroValue122,
  t50 := Try.underlying126,
  a50 := Try.isAgg126,
  z50 := Try.sizeOf126,
  v50 := Try.zeroValue126,
  t53 := Try.underlying92,
  a53 := Try.isAgg92,
  z53 := Try.sizeOf92,
  v53 := Try.zeroValue92,
  t55 := Try.underlying31,
  a55 := Try.isAgg31,
  z55 := Try.sizeOf31,
  v55 := Try.zeroValue31,
  t66 := Try.underlying138,
  a66 := Try.isAgg138,
  z66 := Try.sizeOf138,
  v66 := Try.zeroValue138,
  t70 := Try.underlying142,
  a70 := Try.isAgg142,
  z70 := Try.sizeOf142,
  v70 := Try.zeroValue142,
  t76 := Try.underlying150,
  a76 := Try.isAgg150,
  z76 := Try.sizeOf150,
  v76 := Try.zeroValue150,
  t77 := Try.underlying151,
  a77 := Try.isAgg151,
  z77 := Try.sizeOf151,
  v77 := Try.zeroValue151 }
def layLen_ren : Go.Shelf.Ren := ⟨fun | 125 => 54 | 128 => 70 | 129 => 71 | n => n, fun | 46 => 87 | 3 => 3 | 51 => 92 | 53 => 31 | 4 => 4 | 5 => 5 | 9 => 9 | n => n, fun | n => n⟩
theorem layLen : Go.Proofs.Lays.n125 Try.prog layLen_ren := {
  mixed := by kernel_rfl,
  f125 := Try.func54.trans (congrArg some (by kernel_rfl)),
  f128 := Try.func70.trans (congrArg some (by kernel_rfl)),
  f129 := Try.func71.trans (congrArg some (by kernel_rfl)),
  t3 := Try.underlying3,
  a3 := Try.isAgg3,
  z3 := Try.sizeOf3,
  v3 := Try.zeroValue3,
  t4 := Try.underlying4,
  a4 := Try.isAgg4,
  z4 := Try.sizeOf4,
  v4 := Try.zeroValue4,
  t5 := Try.underlying5,
  a5 := Try.isAgg5,
  z5 := Try.sizeOf5,
  v5 := Try.zeroValue5,
  t9 := Try.underlying9,
  a9 := Try.isAgg9,
  z9 := Try.sizeOf9,
  v9 := Try.zeroValue9,
  t46 := Try.underlying87,
  a46 := Try.isAgg87,
  z46 := Try.sizeOf87,
  v46 := Try.zeroValue87,
  t51 := Try.underlying92,
  a51 := Try.isAgg92,
  z51 := Try.sizeOf92,
  v51 := Try.zeroValue92,
  t53 := Try.underlying31,
  a53 := Try.isAgg31,
  z53 := Try.sizeOf31,
  v53 := Try.zeroValue31 }
theorem lenN (n : Nat) (W : World) (h : n ≤ 12) : Calls Try.prog 54 #[.int .u64 n] W fun e w' => (∃ l : Int, e = .returned (.int .i64 l)) ∧ w' = W :=
  (Any.bits_Len layLen n W (by omega) (by omega)).mono fun _ _ ⟨he, hw⟩ => ⟨⟨_, he⟩, hw⟩
def ltP (x y : Nat × Nat) : Bool := ltOf cfN x y
theorem ltP_iff (x y : Nat × Nat) : ltP x y = true ↔ x.1 < y.1 ∨ x.1 = y.1 ∧ x.2 < y.2 := by
  unfold ltP ltOf cfN cmpN
  simp only [decide_eq_true_eq]
  split <;> split <;> (try split) <;> omega
theorem ltP_not (x y : Nat × Nat) : ltP x y = false ↔ ¬ (x.1 < y.1 ∨ x.1 = y.1 ∧ x.2 < y.2) := by
  rw [← ltP_iff, Bool.not_eq_true]
theorem ltP_swo : SWO (ltOf cfN) := by
  refine ⟨fun x => (ltP_not x x).2 (by omega), fun x y z h1 h2 => (ltP_iff x z).2 ?_, fun x y z h1 h2 => (ltP_not x z).2 ?_⟩
  · have a := (ltP_iff x y).1 h1
    have b := (ltP_iff y z).1 h2
    omega
  · have a := (ltP_not x y).1 h1
    have b := (ltP_not y z).1 h2
    omega
set_option maxHeartbeats 1000000 in
theorem sort_c (blk cap : Nat) (d : Array (Nat × Nat)) (w : World) (hH : HoldsK encN 2 w blk 0 d) (hblk : blk < w.heap.size) (h12 : d.size ≤ 12) :
    Calls Try.prog 37 #[.slice (some ⟨blk, 0, none⟩) d.size cap, .func (.func 23) #[] #[]] w fun e w' => e = .returned (.tuple #[]) ∧ ∃ d' n os, PermIn 0 d.size d d' ∧ SortedIn (ltOf cfN) 0 d.size d' ∧ w' = sortWorldK encN 2 w blk 0 n d' os := by
  have eg : ∀ args w, (callFunc 23 args).run Try.prog w = .ok (.enter 23 args) w := enters_of Try.func23 (by kernel_rfl) rfl
  exact AnyQ.slices_SortFunc_small_sorted laySort 2 Try.isAgg42 Try.sizeOf42 encN (fun _ => rfl) (fun x v hv => by simp [encN] at hv; rcases hv with rfl | rfl <;> rfl) cfN _ #[] ltP_swo blk 0 cap d w eg (cmpLaysN blk 0 d.size w) hH hblk h12 lenN
end Go.Proofs.Ytinjafacnekkcaa
