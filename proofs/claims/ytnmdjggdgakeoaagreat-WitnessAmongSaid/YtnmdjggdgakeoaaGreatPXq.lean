/- Lemmas for the proof. -/
import Derived.Test.YtnmdjggdgakeoaaGreatPXp
import Derived.Test.YtnmdjggdgakeoaaGreatPXn
set_option maxRecDepth 100000
set_option maxHeartbeats 16000000
set_option linter.unusedVariables false
set_option linter.unusedSimpArgs false
set_option linter.unusedSectionVars false
namespace Go.Proofs.YtnmdjggdgakeoaaGreat
open Go Go.RowKit Sha Tryz
theorem mall_c {n : Nat} (hn : n <= 100) (g cap : Nat) (V : Nat -> Value) (R : Nat -> World -> Prop)
  (hstep : ∀ i, i < n -> ∀ w, R i w -> w.cell? ⟨g, i, none⟩ = some (V i) /\ ∃ F A, ((∃ x, V i = .func (.func F) #[x] #[] /\ A = #[x]) \/ (∃ x y, V i = .func (.func F) #[] #[x, y] /\ A = #[x, y])) /\ (∀ w, Sem.run prog (callFunc F A) w = .ok (.enter F A) w) /\ Calls prog F A w fun r w' => r = .returned (.int .i64 0) /\ R (i + 1) w') (w : World) (h : R 0 w) :
  Calls prog 161 #[.slice (some ⟨g, 0, none⟩) n cap] w fun r w' => r = .returned (.int .i64 0) /\ R n w' := by
 have HS := Lib.hid hstep;have H := Lib.hid h;clear hstep h
 go_enter func161, ntmps161
 go_wp2_with fail
 go_loopw [8] (fun v8 wr => ∃ i : Nat, i <= n /\ v8 = .int .i64 (i : Int) /\ Hid (R i wr)) (fun v8 _ => n - (intOf v8).toNat)
 case atStart => exact ⟨0, Nat.zero_le _, rfl, H⟩
 case round =>
  obtain ⟨i, hi, rfl, hr⟩ := hrel
  by_cases hlt : i < n
  ·have dl : (i : Int) < (n : Int) := by omega
   have d0 : ¬ (i : Int) < 0 := by omega
   have ei : IntKind.i64.wrap ((i : Int) + 1) = (i : Int) + 1 := IntWalk.i64_in _ (by omega)
   obtain ⟨c0, F, A, hV, hcf, hcall⟩ := HS.out i hlt wr hr.out
   have HCALL := Lib.hid hcall;have HLT := Lib.hid hlt;rcases hV with ⟨x, hV, rfl⟩ | ⟨x, y, hV, rfl⟩
   ·rw [hV] at c0
    clear hcall hV hr hi hlt HS;go_wp2_with fail
    refine HCALL.out.mono ?_
    rintro r w2 ⟨rfl, hr2⟩
    have HR2 := Lib.hid hr2;clear hr2 HCALL;go_wp2
    go_roundw
    case rel => exact ⟨i + 1, by have := HLT.out; omega, by go_num, HR2⟩
    case measure => simp [intOf]; have := HLT.out; omega
   ·rw [hV] at c0
    clear hcall hV hr hi hlt HS;go_wp2_with fail
    refine HCALL.out.mono ?_
    rintro r w2 ⟨rfl, hr2⟩
    have HR2 := Lib.hid hr2;clear hr2 HCALL;go_wp2
    go_roundw
    case rel => exact ⟨i + 1, by have := HLT.out; omega, by go_num, HR2⟩
    case measure => simp [intOf]; have := HLT.out; omega
  ·have dl : ¬ (i : Int) < (n : Int) := by omega
   have hin : i = n := by omega
   have hr2 := hr.out
   rw [hin] at hr2;have HR2 := Lib.hid hr2;clear hr hr2 hin HS;go_wp2
   go_ret
   exact ⟨rfl, HR2.out⟩
theorem wpList_field_run {P : Program} {ops : Array Oper} {rest : List Oper} {o : Oper} {A : Act} {w : World} {Q : Exit -> Act -> World -> Prop} (hgd : o.guard = none) (ty : TypeId) (x : Operand) (i : Nat) (ho : o.op = .field ty x i) {v0 v : Value} (hx : A.eval x = v0) (hr : (Instr.field ty v0 i).run P w = .ok v w) (hK : wpList P ops Q rest (A.put o.dst v) w) : wpList P ops Q (o :: rest) A w :=
 wpList_plain hgd fun _ hk => by
  unfold Oper.wp execOp
  simp only [ho, hx, Sem.run_bind, Sem.run_pure, Result.andThen_ok, hr]
  exact hk _ _ hK
def restZ : Array Value := #[.slice none 0 0, .int .u64 0, .slice none 0 0, .slice none 0 0, .pointer none]
theorem built_found (X : BaseR) : prog.built 251 [(0, .agg (baseV X))] = some (foundA X 0 (.slice none 0 0) restZ) := by kernel_rfl
theorem padZ_len' (l : List Nat) (z : Nat) : (padZ l z).length = z := by
 unfold padZ;rw [List.length_append, List.length_take, List.length_replicate]; omega
theorem superB_ok (n x : Nat) : (superB n x).length = 256 /\ ∀ y ∈ superB n x, y < 256 := by
 unfold superB;refine ⟨padZ_len' _ _, fun y hy => ?_⟩
 unfold padZ at hy
 rcases List.mem_append.1 hy with h | h
 ·exact superRaw_lt n x y (List.mem_of_mem_take h)
 ·rw [List.eq_of_mem_replicate h]; decide
theorem epochB_ok (k : Nat) (L : List Nat) : (epochB k L).length = 256 /\ ∀ y ∈ epochB k L, y < 256 := by
 unfold epochB;refine ⟨padZ_len' _ _, fun y hy => ?_⟩
 unfold padZ at hy
 rcases List.mem_append.1 hy with h | h
 ·exact lowsL_lt _ y (List.mem_of_mem_take h)
 ·rw [List.eq_of_mem_replicate h]; decide
theorem range_mapS {α : Type} (g : Nat -> α) (k : Nat) : (List.range (k + 1)).map g = (List.range k).map g ++ [g k] := by rw [List.range_succ, List.map_append]; rfl
theorem blankB_ok (key : List Nat) (e k : Nat) (hs : ∀ y ∈ strL key e k 256, y < 256) : (blankB key e k).length = 256 /\ ∀ y ∈ blankB key e k, y < 256 := by
 unfold blankB;refine ⟨by unfold xorL zerosL; rw [List.length_map, List.length_range, List.length_replicate], fun y hy => ?_⟩
 unfold xorL at hy
 obtain ⟨j, hj, rfl⟩ := List.mem_map.1 hy
 have h0 : (zerosL 256).getD j 0 = 0 := by
  unfold zerosL;rw [List.getD_eq_getElem?_getD, List.getElem?_replicate]
  split <;> rfl
 rw [h0, Nat.zero_xor]
 rw [List.getD_eq_getElem?_getD]
 rcases h : (strL key e k 256)[j]? with _ | z
 ·exact (by decide : (0 : Nat) < 256)
 ·exact hs z (List.mem_of_getElem? h)
def T2L (SB EL : List Nat) (i : Nat) : List (List Nat) := SB :: (List.range i).map (fun t => epochB t EL)
def T3L (SB EL key : List Nat) (e m i : Nat) : List (List Nat) := T2L SB EL m ++ (List.range i).map (blankB key e)
theorem T2L_succ (SB EL : List Nat) (i : Nat) : T2L SB EL (i + 1) = T2L SB EL i ++ [epochB i EL] := by unfold T2L; rw [range_mapS]; rfl
theorem T3L_succ (SB EL key : List Nat) (e m i : Nat) : T3L SB EL key e m (i + 1) = T3L SB EL key e m i ++ [blankB key e i] := by unfold T3L; rw [range_mapS, List.append_assoc]
theorem T2L_len (SB EL : List Nat) (i : Nat) : (T2L SB EL i).length = i + 1 := by simp [T2L]
theorem T3L_len (SB EL key : List Nat) (e m i : Nat) : (T3L SB EL key e m i).length = m + 1 + i := by simp [T3L, T2L_len]
theorem BlTo.len {w0 wr : World} {X0 X : BaseR} {f : Nat} {kd : Int} {bv : Value} {BL : List Bl} {rest : Array Value} {ge : Nat} {A : Array Value} {T : List (List Nat)} (h : BlTo w0 wr X0 X f kd bv BL rest ge A T) : BL.length = T.length := by rw [<- h.txt, List.length_map]
theorem BlTo.byt {w0 wr : World} {X0 X : BaseR} {f : Nat} {kd : Int} {bv : Value} {BL : List Bl} {rest : Array Value} {ge : Nat} {A : Array Value} {T : List (List Nat)} {q k : Nat} {l : List Nat} (h : BlTo w0 wr X0 X f kd bv BL rest ge A T) (hk : BL.length = k) (hq : wr.heap[q]? = some (.cells (bA l) 5 (0, 0))) (hl : l.length = 256 /\ ∀ y ∈ l, y < 256) (hqS : ¬ X.S q) (hq0 : w0.heap.size <= q) (hqt : q ≠ f /\ bv.ownBlock ≠ some q) (hqg : q ≠ ge) :
  ∀ v7 w7, w7.ownsRow 0 22 1 v7 (k + 1) (cellsK blE (BL.map (·.1) ++ [q])) -> wr.grownBy w7 bv.ownBlock -> (v7.ownBlock = bv.ownBlock \/ v7.ownBlock = some wr.heap.size) -> BlTo w0 (w7.setCell ⟨f, 7, none⟩ v7) X0 X f kd v7 (BL ++ [(q, l)]) rest ge A (T ++ [l]) /\ w7.cell? ⟨f, 7, none⟩ = some bv /\ w7.frozen? ⟨f, 7, none⟩ = false := fun v7 w7 h1 h2 h3 => by
 have hb : w7.heap[f]? = some (.cells (foundA X kd bv rest) 251 (0, 0)) := (h2.block f (lt_blk h.fnd.blk) (fun e => h.fnd.ne.1 e.symm)).trans h.fnd.blk
 exact ⟨h.push hk hq hl hqS hq0 hqt hqg h1 h2 h3, by rw [cells_at hb 7, foundA_bv], free_at hb 7⟩
theorem u64_cells : ∀ (L : List Nat), cellsK u64E L = L.map u64V
 | [] => rfl
 | x :: l => by rw [cellsK_cons, u64_cells l]; rfl
theorem BlTo.arrK {w0 wr : World} {X0 X : BaseR} {f : Nat} {kd : Int} {bv : Value} {BL : List Bl} {rest : Array Value} {ge : Nat} {L : List Nat} {T : List (List Nat)} (h : BlTo w0 wr X0 X f kd bv BL rest ge (u64A L) T) : RowK u64E 1 wr (some ⟨ge, 0, none⟩) L :=
 rowK_blk (enc := u64E) (k := 1) (M := L) (fun _ => rfl) h.arr fun j u hu => by
  rw [u64_cells] at hu;unfold u64A;rw [List.getElem?_toArray]; exact hu
theorem BlTo.pre {w0 w6 : World} {X0 X : BaseR} {f : Nat} {kd : Int} {bv : Value} {BL : List Bl} {rest : Array Value} {ge : Nat} {A : Array Value} {T : List (List Nat)} {q : Nat} {l : List Nat} (h : BlTo w0 w6 X0 X f kd bv BL rest ge A T) (hT : 0 < T.length) (hq : w6.heap[q]? = some (.cells (bA l) 5 (0, 0))) (hl : l.length = 256 /\ ∀ y ∈ l, y < 256) (hqS : ¬ X.S q) (hq0 : w0.heap.size <= q) (hqt : q ≠ f /\ bv.ownBlock ≠ some q) (hqg : q ≠ ge) :
  ∃ la kq lc w7, w7 = w6.alloc (.cells (blE q).toArray 22) /\ kq = T.length /\ w6.cell? ⟨f, 7, none⟩ = some (.slice (some ⟨la, 0, none⟩) kq lc) /\ w7.ownsRow 0 22 1 (.slice (some ⟨la, 0, none⟩) kq lc) kq (cellsK blE (BL.map (·.1))) /\ RowK blE 1 w7 (some ⟨w6.heap.size, 0, none⟩) [q] /\
   ∀ v8 w8, w8.ownsRow 0 22 1 v8 (kq + 1) (cellsK blE (BL.map (·.1) ++ [q])) -> w7.grownBy w8 (Value.slice (some (⟨la, 0, none⟩ : Addr)) kq lc).ownBlock -> (v8.ownBlock = (Value.slice (some (⟨la, 0, none⟩ : Addr)) kq lc).ownBlock \/ v8.ownBlock = some w7.heap.size) -> BlTo w0 (w8.setCell ⟨f, 7, none⟩ v8) X0 X f kd v8 (BL ++ [(q, l)]) rest ge A (T ++ [l]) /\ w8.cell? ⟨f, 7, none⟩ = some (.slice (some ⟨la, 0, none⟩) kq lc) /\ w8.frozen? ⟨f, 7, none⟩ = false := by
 obtain ⟨la, lc, hbv, _, _⟩ := own_pos h.fnd.own (by rw [h.len]; exact hT)
 have hk := h.len
 rw [hk] at hbv;subst hbv;have hbox := below_box w6 (.cells (blE q).toArray 22)
 have h7 := h.below hbox
 refine ⟨la, T.length, lc, _, rfl, rfl, by rw [cells_at h.fnd.blk 7, foundA_bv], ?_, rowK_one (fun _ => rfl) (heap_new' _ _), h7.byt hk ((hbox.block q (lt_blk hq)).trans hq) hl hqS hq0 hqt hqg⟩
 have := h7.fnd.own
 rw [hk] at this; exact this
def BlankP (w w' : World) (X : BaseR) (f : Nat) (kd : Int) (rest : Array Value) (e : Nat) : Prop := ∃ ge A M bv BL, BlTo w w' X { X with M := M } f kd bv BL rest ge A (blankTs X.n X.x X.K.key e) /\ ∀ x ∈ M, x ∈ X.M \/ ∃ j, x.k = (e, j)
theorem fblank_c {X : BaseR} {f : Nat} {kd : Int} {rest : Array Value} (e : Nat) (he : e < 18446744073709551616) (w : World) (hB : BaseAt w X) (hF : FndAt w f X kd (.slice none 0 0) [] rest) (hf : ¬ X.S f) (hno : ∀ x ∈ X.M, ∀ j, x.k ≠ (e, j)) :
  Calls prog 160 #[.pointer (some ⟨f, 0, none⟩), .int .u64 (e : Int)] w fun r w' => r = .returned (.int .i64 0) /\ BlankP w w' X f kd rest e := by
 have hgo := geo_ok hB.geo
 have hs69 := sealedN_le X.n hgo.2.1
 have he3 := epochsN_le X.n hgo.2.1
 have HSB := Lib.hid (fun w => superBytes_c hB.geo w)
 have hif : ifGeo X.n X.x (sealedN (X.n : Int).toNat) = sealedN X.n := by unfold ifGeo; rw [if_pos hB.geo, Int.toNat_natCast]
 have HSE := Lib.hid (fun w => gSealed_c X.n X.x w)
 rw [hif] at HSE;have HEP := Lib.hid (fun w => gEpochs_c hB.geo w)
 have HBK := Lib.hid (fun (k m : Nat) hk L hL hm hb g o c hc w hR => superBlock_c hB.geo k m hk L hL hm hb g o c hc w hR)
 obtain ⟨s, hs⟩ : ∃ s, s = sealedN X.n := ⟨_, rfl⟩
 obtain ⟨m, hm⟩ : ∃ m, m = epochsN X.n := ⟨_, rfl⟩
 rw [<- hs] at HSE hs69;rw [<- hm] at HEP he3;obtain ⟨SB, hSB⟩ : ∃ SB, SB = superB X.n X.x := ⟨_, rfl⟩
 rw [<- hSB] at HSB;have HSBO : Hid (SB.length = 256 /\ ∀ y ∈ SB, y < 256) := Lib.hid (by rw [hSB]; exact superB_ok _ _)
 obtain ⟨EL, hEL⟩ : ∃ EL, EL = List.replicate s e := ⟨_, rfl⟩
 have HTX : Hid (blankTs X.n X.x X.K.key e = T3L SB EL X.K.key e m s) := Lib.hid (by unfold blankTs T3L T2L; rw [hSB, hEL, hs, hm]; rfl)
 have HELL : Hid (EL.length = s /\ (∀ x ∈ EL, x < 18446744073709551616) /\ ∀ k (h : k < EL.length), EL[k] = e) := Lib.hid ⟨by rw [hEL, List.length_replicate], fun x hx => by rw [hEL] at hx; rw [List.eq_of_mem_replicate hx]; exact he, fun k h => by simp only [hEL, List.getElem_replicate]⟩
 obtain ⟨ZZ, hZZ⟩ : ∃ ZZ, ZZ = u64A (List.replicate s 0) := ⟨_, rfl⟩
 have HZZ : Hid (u64A (partU64 EL 0) = ZZ) := Lib.hid (by rw [partU64_zero, HELL.out.1, hZZ])
 have hmk := fun w => mk_u64 s (by omega) w
 rw [<- hZZ] at hmk;have HN := Lib.hid (And.intro hs69 (And.intro he3 (And.intro hs (And.intro hm he))))
 have HR := Lib.hid (load_fgeo hF.blk)
 have HB := Lib.hid hB;have HF := Lib.hid hF;have HFF := Lib.hid hf;have HNO := Lib.hid hno;clear hB hF hf hno hgo hs69 he3 hif hs hm hSB hEL hZZ he
 go_enter func160, ntmps160
 go_wp2_with (first
  | (refine wpList_load_run rfl 44 (.tmp 19) rfl rfl HR.out ?_)
  | fail)
 refine (HSB.out _).mono ?_
 rintro r w1 ⟨b, rfl, hb1, hb2, hb3⟩
 have HF1 := Lib.hid (HF.out.on.below hb3).holds
 have hbf : b ≠ f := fun e => by have := lt_blk HF.out.blk; omega
 have hfirst := FndAt.first HF1.out hb2 HSBO.out hbf
 have HBN : Hid (¬ X.S b /\ w.heap.size <= b /\ b < w1.heap.size) := Lib.hid ⟨fun e => by have := HB.out.lt b e; omega, hb1, lt_blk hb2⟩
 have HB1 : Hid (Below w.heap.size w w1) := Lib.hid hb3
 have c17 : w1.cell? ⟨f, 7, none⟩ = some (.slice none 0 0) := by rw [cells_at HF1.out.blk 7, foundA_bv]
 have f17 : w1.frozen? ⟨f, 7, none⟩ = false := free_at HF1.out.blk 7
 have hlf : f < w1.heap.size := lt_blk HF1.out.blk
 obtain ⟨w2, hw2⟩ : ∃ w2, w2 = w1.alloc (.cells (blE b).toArray 22) := ⟨_, rfl⟩
 have c27 : w2.cell? ⟨f, 7, none⟩ = some (.slice none 0 0) := by rw [hw2, World.cell?_alloc_past _ _ _ hlf]; exact c17
 have f27 : w2.frozen? ⟨f, 7, none⟩ = false := by rw [hw2, World.frozen?_alloc_past _ _ _ hlf]; exact f17
 have HFI : Hid (FndAt (w2.setCell ⟨f, 7, none⟩ (.slice (some ⟨w1.heap.size, 0, none⟩) 1 1)) f X kd (.slice (some ⟨w1.heap.size, 0, none⟩) 1 1) [(b, SB)] rest /\ Chg (fun k => k = f) w1 (w2.setCell ⟨f, 7, none⟩ (.slice (some ⟨w1.heap.size, 0, none⟩) 1 1)) /\ w1.heap.size < w2.heap.size) := Lib.hid (by rw [hw2]; exact ⟨hfirst.1, hfirst.2, by rw [World.size_alloc]; omega⟩)
 clear hfirst hbf hb1 hb2 hb3 c17 f17 hlf HSB
 go_upto_region 5 with (first
  | (refine blRT.wpList_build (p := b) (by decide) rfl (.tmp 28) rfl rfl ?_; rw [<- hw2]; clear hw2)
  | fail)
 obtain ⟨w3, hw3⟩ : ∃ w3, w3 = w2.setCell ⟨f, 7, none⟩ (.slice (some ⟨w1.heap.size, 0, none⟩) 1 1) := ⟨_, rfl⟩
 have hsz3 : w3.heap.size = w2.heap.size := by rw [hw3]; exact World.size_setCell _ _ _
 rw [<- hw3] at HFI;rw [<- hw3];clear hw3 c27 f27;have hr3 := load_fgeo HFI.out.1.blk
 have HR3 := Lib.hid hr3;have HSZ3 := Lib.hid hsz3;clear hr3 HR hsz3;go_wp2_with (first
  | (refine wpList_load_run rfl 44 (.tmp 35) rfl rfl HR3.out ?_)
  | fail)
 refine (HSE.out _).mono ?_
 rintro r w4 ⟨rfl, hb4⟩
 obtain ⟨w5, hw5⟩ : ∃ w5, w5 = w4.alloc (.cells ZZ 47) := ⟨_, rfl⟩
 have hbl : BlTo w w5 X { X with M := X.M } f kd (.slice (some ⟨w1.heap.size, 0, none⟩) 1 1) [(b, SB)] rest w4.heap.size (u64A (partU64 EL 0)) (T2L SB EL 0) := by
  have h1 := HB1.out.size
  have h2 := HFI.out.2.1.size
  have h3 := hb4.size
  have h4 := HFI.out.2.2
  have h6 := HSZ3.out
  have hs5 : w4.heap.size < w5.heap.size := by rw [hw5, World.size_alloc]; omega
  have hc3 : Chg (fun k => k = f) w w3 := (Chg.of_below HB1.out).trans' HFI.out.2.1
  have hc5 : Chg (fun k => k = f) w w5 := hc3.trans' (Chg.of_below (hw5 ▸ below_al hb4 _))
  have hk5 : Below w3.heap.size w3 w5 := by rw [hw5]; exact below_al hb4 _
  have hlf := lt_blk HF.out.blk
  refine ⟨(HB.out.on.chg hc5 fun k hk e => HFF.out (e ▸ hk)).holds, hc5.mono fun k _ hk => .inr hk, fun k hk => .inl hk, (HFI.out.1.on.below hk5).holds, rfl, ?_, ?_, fun e => by have := HB.out.lt _ e; omega, by omega⟩
  ·rintro k (rfl | hk | ⟨x, hx, rfl⟩)
   ·exact ⟨HFF.out, .inl rfl, by omega⟩
   ·have hk := Option.some.inj hk
    simp only at hk
    subst hk;exact ⟨fun e => by have := HB.out.lt _ e; omega, .inr h1, by omega⟩
   ·obtain rfl : x = (b, SB) := by simpa using hx
    exact ⟨HBN.out.1, .inr HBN.out.2.1, by have := HBN.out.2.2; show b ≠ _; omega⟩
  ·rw [HZZ.out, hw5]; exact heap_new' _ _
 have HBL := Lib.hid hbl;obtain ⟨ge, hge⟩ : ∃ ge, ge = w4.heap.size := ⟨_, rfl⟩
 obtain ⟨bv, hbv⟩ : ∃ bv, bv = Value.slice (some (⟨w1.heap.size, 0, none⟩ : Addr)) 1 1 := ⟨_, rfl⟩
 rw [<- hge, <- hbv] at HBL
 clear hb4 hbl HFI HBN HB1 HF1 HR3 HSE HSZ3 hbv
 go_upto_region 6 with fail
 rw [<- hw5, <- hge]
 clear hw5 hge hmk;go_wp2_with fail
 go_loopw [41] (fun v41 wr => ∃ k : Nat, k <= s /\ v41 = .int .i64 (k : Int) /\ Hid (BlTo w wr X X f kd bv [(b, SB)] rest ge (u64A (partU64 EL k)) (T2L SB EL 0))) (fun v41 _ => s - (intOf v41).toNat)
 case atStart => exact ⟨0, Nat.zero_le _, rfl, HBL⟩
 case round =>
  obtain ⟨k, hk, rfl, hbl⟩ := hrel
  by_cases hlt : k < s
  ·have dl : (k : Int) < (s : Int) := by omega
   have d0 : ¬ (k : Int) < 0 := by omega
   have ek : IntKind.i64.wrap ((k : Int) + 1) = (k : Int) + 1 := by have := HN.out; exact IntWalk.i64_in _ (by omega)
   have hlen : k < (partU64 EL k).length := by rw [partU64_len EL k (by have := HELL.out.1; omega), HELL.out.1]; exact hlt
   have cq : wr.cell? ⟨ge, k, none⟩ = some (u64V (partU64 EL k)[k]) := by rw [cells_at hbl.out.arr k, u64A_get _ _ hlen]
   have fq : wr.frozen? ⟨ge, k, none⟩ = false := free_at hbl.out.arr k
   generalize u64V (partU64 EL k)[k] = y at cq
   have HX : Hid (BlTo w (wr.setCell ⟨ge, k, none⟩ (.int .u64 (e : Int))) X X f kd bv [(b, SB)] rest ge (u64A (partU64 EL (k + 1))) (T2L SB EL 0)) := Lib.hid (by
    have h := hbl.out.set k (u64V e)
    have hkl : k < EL.length := by rw [HELL.out.1]; exact hlt
    rw [u64A_set, show e = EL[k] from (HELL.out.2.2 k hkl).symm, partU64_set EL k hkl] at h
    rw [<- HELL.out.2.2 k hkl]; exact h)
   have HLT := Lib.hid hlt;clear hlen hbl hlt hk;go_wp2
   go_roundw
   case rel => exact ⟨k + 1, by have := HLT.out; omega, by go_num, HX⟩
   case measure => simp [intOf]; have := HLT.out; omega
  ·have dl : ¬ (k : Int) < (s : Int) := by omega
   have hks : k = EL.length := by rw [HELL.out.1]; omega
   have h := hbl.out
   rw [hks, partU64_all] at h
   have HBL2 := Lib.hid h;have HR2 := Lib.hid (load_fgeo h.fnd.blk)
   clear h hbl hks hlt hk HBL;generalize wr = wB at *
   go_wp2_with (first
    | (refine wpList_load_run rfl 44 (.tmp 52) rfl rfl HR2.out ?_)
    | fail)
   refine (HEP.out _).mono ?_
   rintro r w6 ⟨rfl, hb6⟩
   have HBL6 : Hid (BlTo w w6 X X f kd bv [(b, SB)] rest ge (u64A EL) (T2L SB EL 0)) := Lib.hid (HBL2.out.below hb6)
   clear hb6 HBL2 HR2 HEP;go_wp2_with fail
   have HBS : Hid (BlTo w w6 X X f kd bv [(b, SB)] rest ge (u64A EL) (T2L SB EL 0)) := HBL6
   clear HBL6
   go_loopw [55] (fun v55 wr => ∃ (i : Nat) (bv : Value) (BL : List Bl), i <= m /\ v55 = .int .i64 (i : Int) /\ Hid (BlTo w wr X X f kd bv BL rest ge (u64A EL) (T2L SB EL i))) (fun v55 _ => m - (intOf v55).toNat)
   case atStart => exact ⟨0, bv, [(b, SB)], Nat.zero_le _, rfl, HBS⟩
   case round =>
    obtain ⟨i, bv2, BL, hi, rfl, hbl⟩ := hrel
    clear HBS
    by_cases hlt : i < m
    ·have dl : (i : Int) < (m : Int) := by omega
     have ei : IntKind.i64.wrap ((i : Int) + 1) = (i : Int) + 1 := by have := HN.out; exact IntWalk.i64_in _ (by omega)
     have hb := hbl.out
     have HR := Lib.hid (load_fgeo hb.fnd.blk)
     have hcall := HBK.out i s (by have := HN.out; omega) EL HELL.out.1 HN.out.2.2.1 HELL.out.2.1 ge 0 s (Nat.le_refl _) wr hb.arrK
     have HCALL := Lib.hid hcall;have HLT := Lib.hid hlt;have HB2 := Lib.hid hb;clear hb hbl hcall hlt hi;generalize wr = wA at *
     go_wp2_with (first
      | (refine wpList_load_run rfl 44 (.tmp 62) rfl rfl HR.out ?_)
      | fail)
     refine HCALL.out.mono ?_
     rintro r w7 ⟨q, rfl, hq1, hq2, hq3⟩
     have hlb := HB2.out.at'.lt
     have hlF := HB2.out.fnd.on.lt
     have hpre := (HB2.out.below hq3).pre (by rw [T2L_len]; exact Nat.succ_pos _) hq2 (epochB_ok i EL) (fun e => by have := hlb q e; omega) (Nat.le_trans HB2.out.chg.size hq1) ⟨fun e => by have := hlF f (.inl rfl); omega, fun e => by have := hlF q (.inr (.inl e)); omega⟩ (fun e => by have := lt_blk HB2.out.arr; omega)
     obtain ⟨la, kq, lc, w8, hw8, hkq, c67, hown8, hrow8, hP8⟩ := hpre
     rw [T2L_len] at hkq;have HKQ : Hid (kq = i + 1 /\ kq <= 4) := Lib.hid ⟨hkq, by have := HN.out; have := HLT.out; omega⟩
     rw [<- T2L_succ] at hP8;have HOWN8 := Lib.hid hown8;have HROW8 := Lib.hid hrow8;have HP8 := Lib.hid hP8;clear hq1 hq2 hq3 hlb hlF hown8 hrow8 hP8 hkq HR HCALL HB2;go_wp2_with (first
      | (refine blRT.wpList_build (p := q) (by decide) rfl (.tmp 77) rfl rfl ?_; rw [<- hw8]; clear hw8)
      | (refine blRT.wpList_append_at rfl (.tmp 76) (.tmp 78) rfl (base := 0) (v := .slice (some ⟨la, 0, none⟩) kq lc) (n := kq) (L := BL.map (·.1)) rfl HOWN8.out (a := some ⟨w7.heap.size, 0, none⟩) (m := 1) (cap := 1) (M := [q]) rfl rfl HROW8.out (fun h => by cases h) (by rintro _ ⟨⟩; rfl) (by have := HKQ.out; unfold maxLen; omega) (by have := HKQ.out; omega) (Nat.zero_le _) ?_; intro v9 w9 hown9 hgr9 hnil9 hat9; obtain ⟨a9, c9, rfl⟩ := own_sl hown9; obtain ⟨hp9, c97, f97⟩ := HP8.out _ w9 hown9 hgr9 hat9; have HP9 := Lib.hid hp9; clear hp9 hown9 hgr9 hnil9 hat9 HOWN8 HROW8 HP8)
      | fail)
     go_roundw
     case rel => exact ⟨i + 1, _, _, by have := HLT.out; omega, by go_num, HP9⟩
     case measure => simp [intOf]; have := HLT.out; omega
    ·have dl : ¬ (i : Int) < (m : Int) := by omega
     have him : i = m := by omega
     have h := hbl.out
     rw [him] at h;have HBL7 := Lib.hid h;clear h hbl him hlt hi;generalize wr = wC at *
     go_wp2_with fail
     go_loopw [85] (fun v85 wr => ∃ (i : Nat) (M : List NEnt) (bv : Value) (BL : List Bl), i <= s /\ v85 = .int .i64 (i : Int) /\ Hid (BlTo w wr X { X with M := M } f kd bv BL rest ge (u64A EL) (T3L SB EL X.K.key e m i)) /\ Hid (∀ x ∈ M, x ∈ X.M \/ ∃ j, j < i /\ x.k = (e, j))) (fun v85 _ => s - (intOf v85).toNat)
     case atStart => exact ⟨0, X.M, bv2, BL, Nat.zero_le _, rfl, by unfold T3L; simpa using HBL7, Lib.hid fun x hx => .inl hx⟩
     case round =>
      obtain ⟨i3, M, bv3, BL3, hi, rfl, hbl, hM⟩ := hrel
      clear HBL7
      by_cases hlt : i3 < s
      ·have dl : (i3 : Int) < (s : Int) := by omega
       have ei : IntKind.i64.wrap ((i3 : Int) + 1) = (i3 : Int) + 1 := by have := HN.out; exact IntWalk.i64_in _ (by omega)
       have hb := hbl.out
       have c2 : wr.cell? ⟨f, 2, none⟩ = some (.pointer (some ⟨X.s, 0, none⟩)) := by rw [cells_at hb.fnd.blk 2, foundA_base _ _ _ _ 2 (by omega)]; rfl
       have hno : ∀ x ∈ M, x.k ≠ (e, i3) := fun x hx e9 => by
        rcases hM.out x hx with h9 | ⟨j, h9, h10⟩
        ·exact HNO.out x h9 i3 e9
        ·rw [h10] at e9
         have := congrArg Prod.snd e9
         simp only at this
         omega
       have hcall := blank_c (X := { X with M := M }) e i3 HN.out.2.2.2.2 (by have := HN.out; omega) hno wr hb.at'
       have hbl0 := blankB_ok X.K.key e i3 (strL_lt hb.at'.key hb.at'.sl.cip.fbyte e i3 256)
       obtain ⟨KB, hKB⟩ : ∃ KB, KB = blankB X.K.key e i3 := ⟨_, rfl⟩
       have HKB := Lib.hid hKB;have HKB0 : Hid (KB.length = 256 /\ ∀ y ∈ KB, y < 256) := Lib.hid (by rw [hKB]; exact hbl0)
       have hcall2 : Calls prog 201 #[.pointer (some ⟨X.s, 0, none⟩), .int .u64 (e : Int), .int .i64 (i3 : Int)] wr fun r w' => ∃ q g6 c6, r = .returned (.tuple #[.slice (some ⟨q, 0, none⟩) 256 256, .int .i64 0]) /\ wr.heap.size <= q /\ w'.heap[q]? = some (.cells (bA KB) 5 (0, 0)) /\ BaseTo wr w' { X with M := M } { X with M := M ++ [⟨(e, i3), g6, c6, zerosL 256⟩] } /\ ¬ ({ X with M := M ++ [⟨(e, i3), g6, c6, zerosL 256⟩] } : BaseR).S q :=
        hcall.mono (by
         rintro r w' ⟨q, h1, h2, h3, g6, c6, h4, h5⟩
         exact ⟨q, g6, c6, h1, h2, by rw [hKB]; exact h3, h4, h5⟩)
       have HCALL := Lib.hid hcall2;have HLT := Lib.hid hlt;have HB2 := Lib.hid hb;have HM2 := Lib.hid hM.out;clear hb hbl hM hno hcall hcall2 hbl0 hKB hlt hi;generalize wr = wA at *
       go_wp2_with fail
       refine HCALL.out.mono ?_
       rintro r w7 ⟨q, g6, c6, rfl, hq1, hq2, hto, hq4⟩
       have hlF := HB2.out.fnd.on.lt
       obtain ⟨M2, hM2⟩ : ∃ M2, M2 = M ++ [(⟨(e, i3), g6, c6, zerosL 256⟩ : NEnt)] := ⟨_, rfl⟩
       rw [<- hM2] at hto hq4;have HMM : Hid (∀ x ∈ M2, x ∈ X.M \/ ∃ j, j < i3 + 1 /\ x.k = (e, j)) := Lib.hid (fun x hx => by
        rw [hM2] at hx;rcases List.mem_append.1 hx with h9 | h9
        ·rcases HM2.out x h9 with h8 | ⟨j, h8, h7⟩
         ·exact .inl h8
         ·exact .inr ⟨j, by omega, h7⟩
        ·rw [List.mem_singleton.1 h9]; exact .inr ⟨i3, by omega, rfl⟩)
       have hpre := (HB2.out.step hto rfl).pre (by rw [T3L_len]; omega) hq2 HKB0.out hq4 (Nat.le_trans HB2.out.chg.size hq1) ⟨fun e => by have := hlF f (.inl rfl); omega, fun e => by have := hlF q (.inr (.inl e)); omega⟩ (fun e => by have := lt_blk HB2.out.arr; omega)
       obtain ⟨la, kq, lc, w8, hw8, hkq, c67, hown8, hrow8, hP8⟩ := hpre
       rw [T3L_len] at hkq;have HKQ : Hid (kq = m + 1 + i3 /\ kq <= 74) := Lib.hid ⟨hkq, by have := HN.out; have := HLT.out; omega⟩
       rw [HKB.out, <- T3L_succ, <- HKB.out] at hP8
       have HOWN8 := Lib.hid hown8;have HROW8 := Lib.hid hrow8;have HP8 := Lib.hid hP8;clear hq1 hq2 hto hq4 hM2 hlF hown8 hrow8 hP8 hkq HCALL HB2 HM2 c2;go_wp2_with (first
        | (refine blRT.wpList_build (p := q) (by decide) rfl (.tmp 107) rfl rfl ?_; rw [<- hw8]; clear hw8)
        | (refine blRT.wpList_append_at rfl (.tmp 106) (.tmp 108) rfl (base := 0) (v := .slice (some ⟨la, 0, none⟩) kq lc) (n := kq) (L := BL3.map (·.1)) rfl HOWN8.out (a := some ⟨w7.heap.size, 0, none⟩) (m := 1) (cap := 1) (M := [q]) rfl rfl HROW8.out (fun h => by cases h) (by rintro _ ⟨⟩; rfl) (by have := HKQ.out; unfold maxLen; omega) (by have := HKQ.out; omega) (Nat.zero_le _) ?_; intro v9 w9 hown9 hgr9 hnil9 hat9; obtain ⟨a9, c9, rfl⟩ := own_sl hown9; obtain ⟨hp9, c97, f97⟩ := HP8.out _ w9 hown9 hgr9 hat9; have HP9 := Lib.hid hp9; clear hp9 hown9 hgr9 hnil9 hat9 HOWN8 HROW8 HP8)
        | fail)
       go_roundw
       case rel => exact ⟨i3 + 1, M2, _, _, by have := HLT.out; omega, by go_num, HP9, HMM⟩
       case measure => simp [intOf]; have := HLT.out; omega
      ·have dl : ¬ (i3 : Int) < (s : Int) := by omega
       have his : i3 = s := by omega
       have h := hbl.out
       rw [his, <- HTX.out] at h
       have H8 := Lib.hid h;have HM8 := Lib.hid hM.out;clear h hbl hM his hlt hi;go_wp2
       go_ret
       exact ⟨rfl, ge, _, M, bv3, BL3, H8.out, fun x hx => (HM8.out x hx).imp id fun ⟨j, _, h⟩ => ⟨j, h⟩⟩
def FmtOf (X Y : BaseR) : Prop := ∃ av N M R cl E BL nb, nb = leavesN X.n /\ Y = { X with av := av, N := N, M := M, c := X.c + 2, R := R, cl := cl, E := E, TS := X.TS ++ cntTs BL nb } /\ BL.map (·.2) = blankTs X.n X.x X.K.key (X.c + 2) /\ N = splL (storeAll X.N BL nb) (256 * nb) (zerosL (256 * (1 + X.x))) /\ R = sumN (rootT nb (topD (leafDs BL nb)).1) /\ ∀ x ∈ M, x ∈ X.M \/ ∃ j, x.k = (X.c + 2, j)
structure FmR (w0 w : World) (X Y : BaseR) (f g p q : Nat) (c : Nat) (V : Array Value) (bv : Value) (BL : List Bl) : Prop where
 base : BaseTo w0 w X Y
 fnd : FndAt w f Y 0 bv BL restZ
 d : ∀ i, fndS f bv BL i -> ¬ Y.S i
 n : ∀ i, (fndS f bv BL i \/ i = g \/ i = p \/ i = q) -> w0.heap.size <= i
 hg : w.heap[g]? = some (.cells V 164 (0, 0))
 hp : w.heap[p]? = some (.cells #[.pointer (some ⟨f, 0, none⟩)] 244 (0, 0))
 hq : w.heap[q]? = some (.cells #[.int .u64 (c : Int)] 47 (0, 0))
 o : ∀ i, (i = g \/ i = p \/ i = q) -> ¬ Y.S i /\ ¬ fndS f bv BL i
theorem FmR.step {w0 w w' : World} {X Y Z : BaseR} {f g p q c : Nat} {V : Array Value} {bv : Value} {BL : List Bl} (h : FmR w0 w X Y f g p q c V bv BL) (k : BaseTo w w' Y Z) (hZ : baseV Z = baseV Y) : FmR w0 w' X Z f g p q c V bv BL := by
 obtain ⟨h1, h2⟩ := k.keep h.fnd.on h.d
 obtain ⟨g1, g2⟩ := k.keep (On.block h.hg) fun i e => by rw [show i = g from e]; exact (h.o g (.inl rfl)).1
 obtain ⟨p1, p2⟩ := k.keep (On.block h.hp) fun i e => by rw [show i = p from e]; exact (h.o p (.inr (.inl rfl))).1
 obtain ⟨q1, q2⟩ := k.keep (On.block h.hq) fun i e => by rw [show i = q from e]; exact (h.o q (.inr (.inr rfl))).1
 refine ⟨h.base.trans k, h1.holds.re hZ, h2, h.n, g1.holds, p1.holds, q1.holds, ?_⟩
 rintro i (rfl | rfl | rfl)
 ·exact ⟨g2 _ rfl, (h.o _ (.inl rfl)).2⟩
 ·exact ⟨p2 _ rfl, (h.o _ (.inr (.inl rfl))).2⟩
 ·exact ⟨q2 _ rfl, (h.o _ (.inr (.inr rfl))).2⟩
theorem FmR.blank {w0 w w' : World} {X Y Z : BaseR} {f g p q c ge : Nat} {V A : Array Value} {bv bv' : Value} {BL BL' : List Bl} {T : List (List Nat)} (h : FmR w0 w X Y f g p q c V bv BL) (k : BlTo w w' Y Z f 0 bv' BL' restZ ge A T) (hZ : baseV Z = baseV Y) : FmR w0 w' X Z f g p q c V bv' BL' := by
 have hf : w0.heap.size <= f := h.n f (.inl (.inl rfl))
 have hne : ∀ i, (i = g \/ i = p \/ i = q) -> i < w.heap.size -> ¬ (Y.S i \/ i = f) := fun i hi _ e => by
  rcases e with e | e
  ·exact (h.o i hi).1 e
  ·exact (h.o i hi).2 (.inl e)
 have hlg := lt_blk h.hg
 have hlp := lt_blk h.hp
 have hlq := lt_blk h.hq
 have ho : ∀ i, (i = g \/ i = p \/ i = q) -> i < w.heap.size -> ¬ Z.S i /\ ¬ fndS f bv' BL' i := fun i hi hl => ⟨fun e => by
  rcases k.new i e with e | e
  ·exact (h.o i hi).1 e
  ·omega, fun e => by
  rcases (k.apart i e).2.1 with e | e
  ·exact (h.o i hi).2 (.inl e)
  ·omega⟩
 refine ⟨⟨k.at', h.base.chg.trans k.chg fun i hi => ?_, fun i hi => ?_⟩, k.fnd.re hZ.symm |>.re hZ, fun i hi => (k.apart i hi).1, ?_, (k.chg.block g hlg (hne g (.inl rfl) hlg)).trans h.hg, (k.chg.block p hlp (hne p (.inr (.inl rfl)) hlp)).trans h.hp, (k.chg.block q hlq (hne q (.inr (.inr rfl)) hlq)).trans h.hq, ?_⟩
 ·rcases hi with e | e
  ·exact h.base.new i e
  ·exact .inr (e ▸ hf)
 ·rcases k.new i hi with e | e
  ·exact h.base.new i e
  ·exact .inr (Nat.le_trans h.base.chg.size e)
 ·rintro i (hi | hi)
  ·rcases (k.apart i hi).2.1 with e | e
   ·exact e ▸ hf
   ·exact Nat.le_trans h.base.chg.size e
  ·exact h.n i (.inr hi)
 ·rintro i (rfl | rfl | rfl)
  ·exact ho _ (.inl rfl) hlg
  ·exact ho _ (.inr (.inl rfl)) hlp
  ·exact ho _ (.inr (.inr rfl)) hlq
theorem format1_c {f p q c d : Nat} (hd : d = c + 2) (hd64 : d < 18446744073709551616) {S : World -> Prop} (w : World) (hp : w.heap[p]? = some (.cells #[.pointer (some ⟨f, 0, none⟩)] 244 (0, 0))) (hq : w.heap[q]? = some (.cells #[.int .u64 (c : Int)] 47 (0, 0)))
  (hb : Calls prog 160 #[.pointer (some ⟨f, 0, none⟩), .int .u64 (d : Int)] w fun r w' => r = .returned (.int .i64 0) /\ S w') :
  Calls prog 159 #[.pointer (some ⟨p, 0, none⟩), .pointer (some ⟨q, 0, none⟩)] w fun r w' => r = .returned (.int .i64 0) /\ S w' := by
 have c0 : w.cell? ⟨p, 0, none⟩ = some (.pointer (some ⟨f, 0, none⟩)) := by rw [cells_at hp 0]; rfl
 have c1 : w.cell? ⟨q, 0, none⟩ = some (.int .u64 (c : Int)) := by rw [cells_at hq 0]; rfl
 have e1 : IntKind.u64.wrap ((c : Int) + 2) = (d : Int) := by rw [IntKind.wrap_u64]; omega
 have HB := Lib.hid hb;clear hb hp hq hd hd64
 go_enter func159, ntmps159
 go_wp2_with fail
 refine HB.out.mono ?_
 rintro r w2 ⟨rfl, hs⟩
 have HS := Lib.hid hs;clear hs HB;go_wp2
 go_ret
 exact ⟨rfl, HS.out⟩
def fmV (f p q : Nat) : Array Value := #[.func (.func 162) #[.pointer (some ⟨f, 0, none⟩)] #[], .func (.func 159) #[] #[.pointer (some ⟨p, 0, none⟩), .pointer (some ⟨q, 0, none⟩)], .func (.func 163) #[.pointer (some ⟨f, 0, none⟩)] #[], .func (.func 164) #[.pointer (some ⟨f, 0, none⟩)] #[], .func (.func 165) #[.pointer (some ⟨f, 0, none⟩)] #[]]
def fmRel (w0 : World) (X : BaseR) (f g p q : Nat) (i : Nat) (w : World) : Prop := match i with
 | 0 => FmR w0 w X X f g p q X.c (fmV f p q) (.slice none 0 0) []
 | 1 => ∃ av, FmR w0 w X { X with av := av, c := X.c + 1 } f g p q X.c (fmV f p q) (.slice none 0 0) []
 | 2 => ∃ av M bv BL, FmR w0 w X { X with av := av, c := X.c + 1, M := M } f g p q X.c (fmV f p q) bv BL /\ BL.map (·.2) = blankTs X.n X.x X.K.key (X.c + 2) /\ ∀ x ∈ M, x ∈ X.M \/ ∃ j, x.k = (X.c + 2, j)
 | 3 => ∃ av M bv BL, FmR w0 w X { X with av := av, c := X.c + 1, M := M, N := storeAll X.N BL BL.length } f g p q X.c (fmV f p q) bv BL /\ BL.map (·.2) = blankTs X.n X.x X.K.key (X.c + 2) /\ ∀ x ∈ M, x ∈ X.M \/ ∃ j, x.k = (X.c + 2, j)
 | 4 => ∃ av M bv BL, FmR w0 w X { X with av := av, c := X.c + 1, M := M, N := splL (storeAll X.N BL BL.length) (256 * leavesN X.n) (zerosL (256 * (1 + X.x))) } f g p q X.c (fmV f p q) bv BL /\ BL.map (·.2) = blankTs X.n X.x X.K.key (X.c + 2) /\ ∀ x ∈ M, x ∈ X.M \/ ∃ j, x.k = (X.c + 2, j)
 | _ => ∃ Y, BaseTo w0 w X Y /\ FmtOf X Y
theorem fm_len {BL : List Bl} {n x : Nat} {key : List Nat} {e : Nat} (h : BL.map (·.2) = blankTs n x key e) : BL.length = leavesN n := by
 have h2 := congrArg List.length h
 rwa [List.length_map, blankTs_len] at h2
theorem fm_step {X : BaseR} (hc : X.c + 2 < 18446744073709551616) (hno : ∀ x ∈ X.M, ∀ j, x.k ≠ (X.c + 2, j)) (w0 : World) (f g p q : Nat) (i : Nat) (hi : i < 5) (w : World) (h : fmRel w0 X f g p q i w) :
  w.cell? ⟨g, i, none⟩ = some ((fmV f p q).getD i undef) /\ ∃ F A, ((∃ x, (fmV f p q).getD i undef = .func (.func F) #[x] #[] /\ A = #[x]) \/ (∃ x y, (fmV f p q).getD i undef = .func (.func F) #[] #[x, y] /\ A = #[x, y])) /\ (∀ w, Sem.run prog (callFunc F A) w = .ok (.enter F A) w) /\ Calls prog F A w fun r w' => r = .returned (.int .i64 0) /\ fmRel w0 X f g p q (i + 1) w' := by
 have hcell : ∀ {Y : BaseR} {bv : Value} {BL : List Bl}, FmR w0 w X Y f g p q X.c (fmV f p q) bv BL -> w.cell? ⟨g, i, none⟩ = some ((fmV f p q).getD i undef) := fun {Y bv BL} hr => by
  rw [cells_at hr.hg i]
  have h1 : i = 0 \/ i = 1 \/ i = 2 \/ i = 3 \/ i = 4 := by omega
  rcases h1 with rfl | rfl | rfl | rfl | rfl <;> rfl
 have h1 : i = 0 \/ i = 1 \/ i = 2 \/ i = 3 \/ i = 4 := by omega
 rcases h1 with rfl | rfl | rfl | rfl | rfl
 ·have hr : FmR w0 w X X f g p q X.c (fmV f p q) (.slice none 0 0) [] := h
  refine ⟨hcell hr, _, _, .inl ⟨_, rfl, rfl⟩, fun w => by first | rfl | go_simp, ?_⟩
  refine (fbumped_c (by omega) w hr.base.at' hr.fnd).mono ?_
  rintro r w' ⟨rfl, av, hto⟩
  exact ⟨rfl, av, hr.step hto rfl⟩
 ·obtain ⟨av, hr⟩ := h
  refine ⟨hcell hr, _, _, .inr ⟨_, _, rfl, rfl⟩, fun w => by first | rfl | go_simp, ?_⟩
  refine format1_c (d := X.c + 2) rfl hc w hr.hp hr.hq ?_
  refine (fblank_c (X.c + 2) hc w hr.base.at' hr.fnd (hr.d f (.inl rfl)) hno).mono ?_
  rintro r w' ⟨rfl, ge, A, M, bv, BL, hbl, hM⟩
  exact ⟨rfl, av, M, bv, BL, hr.blank hbl rfl, hbl.txt, hM⟩
 ·obtain ⟨av, M, bv, BL, hr, hT, hM⟩ := h
  have hl := fm_len hT
  refine ⟨hcell hr, _, _, .inl ⟨_, rfl, rfl⟩, fun w => by first | rfl | go_simp, ?_⟩
  refine (fwhole_c (by rw [hl]; unfold leavesN; omega) (by rw [hl]; exact Nat.le_add_right _ _) w hr.base.at' hr.fnd hr.d).mono ?_
  rintro r w' ⟨rfl, av', hto⟩
  exact ⟨rfl, av', M, bv, BL, hr.step hto rfl, hT, hM⟩
 ·obtain ⟨av, M, bv, BL, hr, hT, hM⟩ := h
  refine ⟨hcell hr, _, _, .inl ⟨_, rfl, rfl⟩, fun w => by first | rfl | go_simp, ?_⟩
  refine (fscrub_c w hr.base.at' hr.fnd).mono ?_
  rintro r w' ⟨rfl, av', hto⟩
  exact ⟨rfl, av', M, bv, BL, hr.step hto rfl, hT, hM⟩
 ·obtain ⟨av, M, bv, BL, hr, hT, hM⟩ := h
  have hl := fm_len hT
  refine ⟨hcell hr, _, _, .inl ⟨_, rfl, rfl⟩, fun w => by first | rfl | go_simp, ?_⟩
  refine (fcounts_c (X := { X with av := av, c := X.c + 1, M := M, N := splL (storeAll X.N BL BL.length) (256 * leavesN X.n) (zerosL (256 * (1 + X.x))) }) (leavesN X.n) hl rfl (by show X.c + 1 + 1 < _; omega) w hr.base.at' hr.fnd hr.d).mono ?_
  rintro r w' ⟨rfl, av', cl, E, hto⟩
  rw [hl] at hto;exact ⟨rfl, _, hr.base.trans (by rw [hl]; exact hto), av', _, M, _, cl, E, BL, leavesN X.n, rfl, rfl, hT, rfl, rfl, hM⟩
theorem format_c {X : BaseR} (hc : X.c + 2 < 18446744073709551616) (hno : ∀ x ∈ X.M, ∀ j, x.k ≠ (X.c + 2, j)) (w : World) (h : BaseAt w X) :
  Calls prog 124 #[.agg (baseV X)] w fun r w' => r = .returned (.int .i64 0) /\ ∃ Y, BaseTo w w' X Y /\ FmtOf X Y := by
 have HST := Lib.hid (fun w0 f g p q => fm_step hc hno w0 f g p q)
 obtain ⟨w1, hw1⟩ : ∃ w1, w1 = w.alloc (.cells (baseV X) 90) := ⟨_, rfl⟩
 have HX := Lib.hid (heap_new' w (.cells (baseV X) 90))
 rw [<- hw1] at HX;have hb1 : Below w.heap.size w w1 := by rw [hw1]; exact below_box _ _
 have HB1 := Lib.hid (BaseTo.below h hb1)
 have HMAY := Lib.hid (mendMay_c w1 HB1.out.at')
 have HBT := Lib.hid (built_found X)
 have HL := Lib.hid h.rl;have HCC := Lib.hid hc;have HB0 := Lib.hid hb1;obtain ⟨B, hB⟩ : ∃ B, B = baseV X := ⟨_, rfl⟩
 have HBE := Lib.hid hB;rw [<- hB] at HMAY HBT HX hw1 ⊢
 clear h hc hno hb1 hB
 go_enter func124, ntmps124
 go_upto_region 1 with fail
 rw [<- hw1];clear hw1;go_wp2_with (first
  | (refine wpList_load_row rfl 90 (.tmp 1) rfl w.heap.size rfl _ _ _ _ HX.out underlying90 rfl (by rw [HBE.out]; exact base6) ?_)
  | fail)
 refine HMAY.out.mono ?_
 rintro r w2 ⟨rfl, hb2⟩
 have HX2 : Hid (w2.heap[w.heap.size]? = some (.cells B 90 (0, 0))) := (hb2.block _ (lt_blk HX.out)).trans HX.out
 have HB2 : Hid (BaseTo w w2 X X) := HB1.out.trans (BaseTo.below HB1.out.at' hb2)
 have c1 : w2.cell? ⟨w.heap.size, 1, none⟩ = some (.pointer (some ⟨X.t, 0, none⟩)) := by rw [cells_at HX2.out 1, HBE.out]; rfl
 have HRD := Lib.hid (trRead_c HL.out w2 HB2.out.at'.tr)
 clear HMAY hb2 HB1 HX HB0;go_wp2_with fail
 refine HRD.out.mono ?_
 rintro r w3 ⟨rfl, hb3⟩
 have HX3 : Hid (w3.heap[w.heap.size]? = some (.cells B 90 (0, 0))) := (hb3.block _ (lt_blk HX2.out)).trans HX2.out
 have HB3 : Hid (BaseTo w w3 X X) := HB2.out.trans (BaseTo.below HB2.out.at' hb3)
 have HFR := Lib.hid (field_reg X.c X.R HL.out w3)
 have d1 : (X.c : Int) <= 18446744073709551613 := by have := HCC.out; omega
 clear hb3 HB2 HX2 c1 HRD HL
 go_upto_region 5 with (first
  | (refine wpList_field_run rfl 116 (.tmp 14) 0 rfl rfl HFR.out ?_)
  | fail)
 obtain ⟨q, hq⟩ : ∃ q, q = w3.heap.size := ⟨_, rfl⟩
 obtain ⟨w4, hw4⟩ : ∃ w4, w4 = w3.alloc (.cells #[.int .u64 (X.c : Int)] 47) := ⟨_, rfl⟩
 have HQ4 : Hid (w4.heap[q]? = some (.cells #[.int .u64 (X.c : Int)] 47 (0, 0)) /\ w4.heap.size = q + 1) := Lib.hid (by rw [hw4, hq]; exact ⟨heap_new' _ _, World.size_alloc _ _⟩)
 have c4 : w4.cell? ⟨q, 0, none⟩ = some (.int .u64 (X.c : Int)) := by rw [cells_at HQ4.out.1 0]; rfl
 have hb4 : Below w3.heap.size w3 w4 := by rw [hw4]; exact below_box _ _
 have HX4 : Hid (w4.heap[w.heap.size]? = some (.cells B 90 (0, 0))) := (hb4.block _ (lt_blk HX3.out)).trans HX3.out
 have HB4 : Hid (BaseTo w w4 X X) := HB3.out.trans (BaseTo.below HB3.out.at' hb4)
 have HQL : Hid (w.heap.size <= q) := Lib.hid (by rw [hq]; exact HB3.out.chg.size)
 rw [<- hw4, <- hq]
 have HAP : Hid (∀ i, q <= i -> ¬ X.S i) := Lib.hid (fun i hi e => by have := HB3.out.at'.lt i e; omega)
 clear hb4 hw4 HX3 HB3 HFR hq;obtain ⟨FA, hFA⟩ : ∃ FA, FA = foundA X 0 (.slice none 0 0) restZ := ⟨_, rfl⟩
 have HFA := Lib.hid hFA;rw [<- hFA] at HBT;clear hFA
 go_upto_region 8 with (first
  | (refine wpList_load_row rfl 90 (.tmp 1) rfl w.heap.size rfl _ _ _ _ HX4.out underlying90 rfl (by rw [HBE.out]; exact base6) ?_)
  | (refine wpList_build_c rfl 251 [(0, .tmp 18)] rfl FA HBT.out ?_)
  | fail)
 obtain ⟨f, hf⟩ : ∃ f, f = w4.heap.size := ⟨_, rfl⟩
 obtain ⟨p, hp⟩ : ∃ p, p = w4.heap.size + 1 := ⟨_, rfl⟩
 rw [<- hp, <- hf]
 obtain ⟨w5, hw5⟩ : ∃ w5, w5 = (w4.alloc (.cells FA 251)).alloc (.cells #[.pointer (some ⟨f, 0, none⟩)] 244) := ⟨_, rfl⟩
 have hb5 : Below w4.heap.size w4 w5 := by rw [hw5]; exact below_al (below_box _ _) _
 have h5f : w5.heap[f]? = some (.cells FA 251 (0, 0)) := by
  rw [hw5, hf]
  exact ((below_box _ _).block _ (by rw [World.size_alloc]; omega)).trans (World.alloc_heap_new _ _)
 have h5p : w5.heap[p]? = some (.cells #[.pointer (some ⟨f, 0, none⟩)] 244 (0, 0)) := by
  rw [hw5, hp, show w4.heap.size + 1 = (w4.alloc (.cells FA 251)).heap.size by rw [World.size_alloc]]
  exact heap_new' _ _
 have h5s : w5.heap.size = f + 2 := by rw [hw5, World.size_alloc, World.size_alloc, hf]
 rw [<- hw5];clear hw5;have c5 : w5.cell? ⟨p, 0, none⟩ = some (.pointer (some ⟨f, 0, none⟩)) := by rw [cells_at h5p 0]; rfl
 have HB5 : Hid (BaseTo w w5 X X) := HB4.out.trans (BaseTo.below HB4.out.at' hb5)
 have HLT : Hid (q < f /\ p = f + 1 /\ w.heap.size <= q /\ w5.heap.size = f + 2) := Lib.hid ⟨by have := HQ4.out.2; omega, by omega, HQL.out, h5s⟩
 have HQ5 : Hid (w5.heap[q]? = some (.cells #[.int .u64 (X.c : Int)] 47 (0, 0))) := (hb5.block q (lt_blk HQ4.out.1)).trans HQ4.out.1
 have HF5 := Lib.hid h5f;have HP5 := Lib.hid h5p;clear hb5 h5f h5p h5s hf hp HQ4 HX4 HB4 HBT c4 HQL;go_wp2_with fail
 refine (mall_c (n := 5) (by decide) w5.heap.size 5 (fun i => (fmV f p q).getD i undef) (fmRel w X f w5.heap.size p q) (HST.out w f w5.heap.size p q) _ ?_).mono ?_
 ·have hbox := below_box w5 (.cells (fmV f p q) 164)
  have hn := heap_new' w5 (.cells (fmV f p q) 164)
  show FmR w (w5.alloc (.cells (fmV f p q) 164)) X X f w5.heap.size p q X.c (fmV f p q) (.slice none 0 0) []
  have hl := HLT.out
  refine ⟨HB5.out.trans (BaseTo.below HB5.out.at' hbox), ?_, ?_, ?_, hn, (hbox.block p (lt_blk HP5.out)).trans HP5.out, (hbox.block q (lt_blk HQ5.out)).trans HQ5.out, ?_⟩
  ·exact ⟨(hbox.block f (lt_blk HF5.out)).trans (by rw [<- HFA.out]; exact HF5.out), ⟨rfl, .inl ⟨rfl, rfl⟩⟩, fun x hx => (by cases hx), ⟨nofun, fun x hx => (by cases hx)⟩⟩
  ·rintro i (rfl | hi | ⟨x, hx, _⟩)
   ·exact HAP.out _ (by omega)
   ·cases hi
   ·cases hx
  ·rintro i ((rfl | hi | ⟨x, hx, _⟩) | rfl | rfl | rfl)
   ·omega
   ·cases hi
   ·cases hx
   ·omega
   ·omega
   ·omega
  ·have hno : ∀ i, i ≠ f -> ¬ fndS f (.slice none 0 0) [] i := by
    rintro i hi (rfl | h | ⟨x, hx, _⟩)
    ·exact hi rfl
    ·cases h
    ·cases hx
   rintro i (rfl | rfl | rfl)
   ·exact ⟨HAP.out _ (by omega), hno _ (by omega)⟩
   ·exact ⟨HAP.out _ (by omega), hno _ (by omega)⟩
   ·exact ⟨HAP.out _ (by omega), hno _ (by omega)⟩
 rintro r w7 ⟨rfl, hfin⟩
 have HFIN := Lib.hid hfin;clear hfin HST HAP HF5 HP5 HQ5 HB5 c5;go_wp2
 go_ret
 exact ⟨rfl, HFIN.out⟩
def heapA (X : BaseR) : Array Value := baseV X ++ #[.pointer none, .bool false, .pointer none, .pointer none]
theorem built_heap (X : BaseR) : prog.built 174 [(0, .agg (baseV X))] = some (heapA X) := by kernel_rfl
theorem baseV_get (X : BaseR) (w : World) : (w.alloc (.cells (baseV X) 90)).cell? ⟨w.heap.size, 0, none⟩ = some (.pointer (some ⟨X.D.d, 0, none⟩)) /\ (w.alloc (.cells (baseV X) 90)).cell? ⟨w.heap.size, 1, none⟩ = some (.pointer (some ⟨X.t, 0, none⟩)) /\ (w.alloc (.cells (baseV X) 90)).cell? ⟨w.heap.size, 2, none⟩ = some (.pointer (some ⟨X.s, 0, none⟩)) /\ (w.alloc (.cells (baseV X) 90)).cell? ⟨w.heap.size, 3, none⟩ = some (.pointer (some ⟨X.b, 0, none⟩)) := by
 have h := heap_new' w (.cells (baseV X) 90)
 exact ⟨by rw [cells_at h 0]; rfl, by rw [cells_at h 1]; rfl, by rw [cells_at h 2]; rfl, by rw [cells_at h 3]; rfl⟩
theorem heapNew_c (X : BaseR) (w : World) :
  Calls prog 52 #[.agg (baseV X)] w fun r w' => r = .returned (.tuple #[.pointer (some ⟨w.heap.size + 1, 0, none⟩), .int .i64 0]) /\ w'.heap[w.heap.size + 1]? = some (.cells (heapA X) 174 (0, 0)) /\ Below w.heap.size w w' := by
 obtain ⟨w1, hw1⟩ : ∃ w1, w1 = w.alloc (.cells (baseV X) 90) := ⟨_, rfl⟩
 have hc := baseV_get X w
 have HX := Lib.hid (heap_new' w (.cells (baseV X) 90))
 rw [<- hw1] at hc HX;obtain ⟨c0, c1, c2, c3⟩ := hc
 have HBT := Lib.hid (built_heap X)
 have HS1 : Hid (w1.heap.size = w.heap.size + 1) := Lib.hid (by rw [hw1, World.size_alloc])
 have HB1 : Hid (Below w.heap.size w w1) := Lib.hid (by rw [hw1]; exact below_box _ _)
 have HW1 := Lib.hid hw1;obtain ⟨B, hB⟩ : ∃ B, B = baseV X := ⟨_, rfl⟩
 have HBE := Lib.hid hB;rw [<- hB] at HBT HX hw1 ⊢
 clear hB HW1
 go_enter func52, ntmps52
 go_upto_region 1 with fail
 rw [<- hw1];clear hw1;go_wp2_with (first
  | (refine wpList_load_row rfl 90 (.tmp 1) rfl w.heap.size rfl _ _ _ _ HX.out underlying90 rfl (by rw [HBE.out]; exact base6) ?_)
  | (refine wpList_build_c rfl 174 [(0, .tmp 22)] rfl (heapA X) HBT.out ?_)
  | fail)
 go_ret2
 exact ⟨by rw [HS1.out]; rfl, by rw [<- HS1.out]; exact heap_new' _ _, below_al HB1.out _⟩
theorem load_hbase {w : World} {h : Nat} {X : BaseR} (hh : w.heap[h]? = some (.cells (heapA X) 174 (0, 0))) : (loadVar 90 ⟨h, 0, none⟩).run prog w = .ok (.agg (baseV X)) w := by
 have hr := run_loadVar_mid (P := prog) w h 0 90 (baseV X).toList _ (fun j v hv => by
  have hj : j < 6 := (List.getElem?_eq_some_iff.1 hv).1
  rw [Nat.zero_add, cells_at hh j]
  unfold heapA;rw [Array.getElem?_append_left hj, <- Array.getElem?_toList]; exact hv) underlying90 rfl (by rw [base6]; rfl)
 exact hr
theorem heapFormat_c {X : BaseR} {hp : Nat} (hc : X.c + 2 < 18446744073709551616) (hno : ∀ x ∈ X.M, ∀ j, x.k ≠ (X.c + 2, j)) (w : World) (h : BaseAt w X) (hh : w.heap[hp]? = some (.cells (heapA X) 174 (0, 0))) :
  Calls prog 89 #[.pointer (some ⟨hp, 0, none⟩)] w fun r w' => r = .returned (.int .i64 0) /\ ∃ Y, BaseTo w w' X Y /\ FmtOf X Y := by
 have HF := Lib.hid (format_c hc hno w h)
 have c6 : w.cell? ⟨hp, 6, none⟩ = some (.pointer none) := by rw [cells_at hh 6]; rfl
 have HL := Lib.hid (load_hbase hh)
 clear h hh hc hno
 go_enter func89, ntmps89
 go_wp2_with (first
  | (refine wpList_load_run rfl 90 (.tmp 14) rfl rfl HL.out ?_)
  | fail)
 refine HF.out.mono ?_
 rintro r w2 ⟨rfl, hf⟩
 have HR := Lib.hid hf;clear hf HF;go_wp2
 go_ret
 exact ⟨rfl, HR.out⟩
end Go.Proofs.YtnmdjggdgakeoaaGreat
