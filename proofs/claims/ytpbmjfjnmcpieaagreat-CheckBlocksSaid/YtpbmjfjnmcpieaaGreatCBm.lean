/- Texts RCh, RCi, put together by pack.py. -/
import Derived.Test.YtpbmjfjnmcpieaaGreatCBi
import Derived.Test.YtpbmjfjnmcpieaaGreatCBj
import Derived.Test.YtpbmjfjnmcpieaaGreatCBk
import Derived.Test.YtpbmjfjnmcpieaaGreatCBl
import Derived.Test.YtpbmjfjnmcpieaaGreatCBe
import Derived.Test.YtpbmjfjnmcpieaaGreatCBf
set_option maxRecDepth 100000
set_option maxHeartbeats 16000000
set_option linter.unusedVariables false
set_option linter.unusedSimpArgs false
namespace Go.Proofs.YtpbmjfjnmcpieaaGreat
open Go Go.RowKit
def opsQM : {o : Array Oper // some o = (Tryz.f27.body.bind (Fre.findR 22))} := ⟨_, rfl⟩
theorem fitQM : Fre.fit .any opsQM.1 77 = true := by kernel_rfl
theorem sizeQM : opsQM.1.size = 6 := by kernel_rfl
theorem tailQM : Fre.tailFitT .any opsQM.1 4 = true := by kernel_rfl
def VQM (gb rb mb x n c : Nat) (t : Int) (va : Option Addr) (R : List Nat) (P : List Pg) (i : Nat) (v : Value) (w : World) : Prop := match i with
 | 0 => v = .agg (mtA x R (.slice va n c))
 | 1 => v = .agg #[.int .i64 (n : Int), .int .i64 t]
 | 2 => v = .agg (mtA x R (.slice va n c))
 | 3 => v = .bool (mayM x P)
 | _ => True
theorem stQM_0 (gb rb mb x n c : Nat) (t : Int) (va : Option Addr) (R : List Nat) (P : List Pg) (a0 : Act) (g98 : a0.tmps.getD 8 undef = .pointer (some ⟨mb, 0, none⟩)) (w0 : World) (h16 : R.length = 16) (hRl : ∀ r ∈ R, r < 18446744073709551616) (hright : rightR x R = true) (hg : geoB n t = true) (hn : P.length = n) (hsz : ∀ p ∈ P, p.size < 4611686018427387904) (hrn : ∀ p ∈ P, p.run < 4611686018427387904) (h0 : w0.heap[gb]? = some (.cells #[.int .i64 (n : Int), .int .i64 t] 31 (0, 0))) (h8 : w0.heap[mb]? = some (.cells (mtA x R (.slice va n c)) 28 (0, 0))) (hP : PgsAt w0 va P) : Fre.StepB Tryz.prog opsQM.1 a0 w0 (VQM gb rb mb x n c t va R P) Fre.Kept 0 := by
 intro E w hc hf hE hV hN hS o ho
 obtain rfl := Option.some.inj ho
 clear ho
 simp only [opsQM, List.getElem_toArray, List.getElem_cons_succ, List.getElem_cons_zero]
 have b8 : E (.tmp 8) = .pointer (some ⟨mb, 0, none⟩) := (hE 8 (by kernel_rfl)).trans g98
 clear g98
 have hb9 := (hS.block mb (lt_of_block h8)).trans h8
 have hr := run_loadVar_row w mb _ 28 (mtA x R (.slice va n c)) _ _ hb9 Tryz.underlying28 rfl (by rw [meta18R, mtA_size, h16])
 refine Fre.Does.value (v := .agg (mtA x R (.slice va n c))) (w' := w) ?_ ⟨rfl, Fre.Kept.refl _⟩
 unfold execOp
 simp only [b8, Instr.loadAt, Instr.sureAddr, Sem.run_bind, Sem.run_pure, Result.andThen_ok, hr]
theorem stQM_1 (gb rb mb x n c : Nat) (t : Int) (va : Option Addr) (R : List Nat) (P : List Pg) (a0 : Act) (g92 : a0.tmps.getD 2 undef = .pointer (some ⟨gb, 0, none⟩)) (w0 : World) (h16 : R.length = 16) (hRl : ∀ r ∈ R, r < 18446744073709551616) (hright : rightR x R = true) (hg : geoB n t = true) (hn : P.length = n) (hsz : ∀ p ∈ P, p.size < 4611686018427387904) (hrn : ∀ p ∈ P, p.run < 4611686018427387904) (h0 : w0.heap[gb]? = some (.cells #[.int .i64 (n : Int), .int .i64 t] 31 (0, 0))) (h8 : w0.heap[mb]? = some (.cells (mtA x R (.slice va n c)) 28 (0, 0))) (hP : PgsAt w0 va P) : Fre.StepB Tryz.prog opsQM.1 a0 w0 (VQM gb rb mb x n c t va R P) Fre.Kept 1 := by
 intro E w hc hf hE hV hN hS o ho
 obtain rfl := Option.some.inj ho
 clear ho
 simp only [opsQM, List.getElem_toArray, List.getElem_cons_succ, List.getElem_cons_zero]
 have b2 : E (.tmp 2) = .pointer (some ⟨gb, 0, none⟩) := (hE 2 (by kernel_rfl)).trans g92
 clear g92
 have hb9 := (hS.block gb (lt_of_block h0)).trans h0
 have hr := run_loadVar_row w gb _ 31 #[.int .i64 (n : Int), .int .i64 t] _ _ hb9 Tryz.underlying31 rfl (by rw [geo2]; rfl)
 refine Fre.Does.value (v := .agg #[.int .i64 (n : Int), .int .i64 t]) (w' := w) ?_ ⟨rfl, Fre.Kept.refl _⟩
 unfold execOp
 simp only [b2, Instr.loadAt, Instr.sureAddr, Sem.run_bind, Sem.run_pure, Result.andThen_ok, hr]
theorem stQM_2 (gb rb mb x n c : Nat) (t : Int) (va : Option Addr) (R : List Nat) (P : List Pg) (a0 : Act) (g98 : a0.tmps.getD 8 undef = .pointer (some ⟨mb, 0, none⟩)) (w0 : World) (h16 : R.length = 16) (hRl : ∀ r ∈ R, r < 18446744073709551616) (hright : rightR x R = true) (hg : geoB n t = true) (hn : P.length = n) (hsz : ∀ p ∈ P, p.size < 4611686018427387904) (hrn : ∀ p ∈ P, p.run < 4611686018427387904) (h0 : w0.heap[gb]? = some (.cells #[.int .i64 (n : Int), .int .i64 t] 31 (0, 0))) (h8 : w0.heap[mb]? = some (.cells (mtA x R (.slice va n c)) 28 (0, 0))) (hP : PgsAt w0 va P) : Fre.StepB Tryz.prog opsQM.1 a0 w0 (VQM gb rb mb x n c t va R P) Fre.Kept 2 := by
 intro E w hc hf hE hV hN hS o ho
 obtain rfl := Option.some.inj ho
 clear ho
 simp only [opsQM, List.getElem_toArray, List.getElem_cons_succ, List.getElem_cons_zero]
 have b8 : E (.tmp 8) = .pointer (some ⟨mb, 0, none⟩) := (hE 8 (by kernel_rfl)).trans g98
 clear g98
 have hb9 := (hS.block mb (lt_of_block h8)).trans h8
 have hr := run_loadVar_row w mb _ 28 (mtA x R (.slice va n c)) _ _ hb9 Tryz.underlying28 rfl (by rw [meta18R, mtA_size, h16])
 refine Fre.Does.value (v := .agg (mtA x R (.slice va n c))) (w' := w) ?_ ⟨rfl, Fre.Kept.refl _⟩
 unfold execOp
 simp only [b8, Instr.loadAt, Instr.sureAddr, Sem.run_bind, Sem.run_pure, Result.andThen_ok, hr]
theorem stQM_3 (gb rb mb x n c : Nat) (t : Int) (va : Option Addr) (R : List Nat) (P : List Pg) (a0 : Act)  (w0 : World) (h16 : R.length = 16) (hRl : ∀ r ∈ R, r < 18446744073709551616) (hright : rightR x R = true) (hg : geoB n t = true) (hn : P.length = n) (hsz : ∀ p ∈ P, p.size < 4611686018427387904) (hrn : ∀ p ∈ P, p.run < 4611686018427387904) (h0 : w0.heap[gb]? = some (.cells #[.int .i64 (n : Int), .int .i64 t] 31 (0, 0))) (h8 : w0.heap[mb]? = some (.cells (mtA x R (.slice va n c)) 28 (0, 0))) (hP : PgsAt w0 va P) : Fre.StepB Tryz.prog opsQM.1 a0 w0 (VQM gb rb mb x n c t va R P) Fre.Kept 3 := by
 intro E w hc hf hE hV hN hS o ho
 obtain rfl := Option.some.inj ho
 clear ho
 simp only [opsQM, List.getElem_toArray, List.getElem_cons_succ, List.getElem_cons_zero]
 have d1 := hV 1 74 (by kernel_rfl) (by kernel_rfl)
 have d1 : E (.tmp 74) = .agg #[.int .i64 (n : Int), .int .i64 t] := d1
 have d2 := hV 2 75 (by kernel_rfl) (by kernel_rfl)
 have d2 : E (.tmp 75) = .agg (mtA x R (.slice va n c)) := d2
 refine Fre.Does.enter (f := 55) (args := #[.agg #[.int .i64 (n : Int), .int .i64 t], .agg (mtA x R (.slice va n c))]) (w' := w) ?_ ((rmmay_c x R h16 hRl hright va n c t hg P hn hsz hrn w (hP.up hS (Nat.le_refl _))).mono ?_)
 ·clear hg hn hright; go_simp
 ·rintro e w' ⟨rfl, hk'⟩
  exact ⟨_, rfl, rfl, hk'⟩
theorem kpQM (gb rb mb x n c : Nat) (t : Int) (va : Option Addr) (R : List Nat) (P : List Pg) : ∀ j v w w', j < 4 -> VQM gb rb mb x n c t va R P j v w -> Fre.Kept w w' -> VQM gb rb mb x n c t va R P j v w' := by
 intro j v w w' hj h hs
 have hc : j = 0 \/ j = 1 \/ j = 2 \/ j = 3 := by omega
 rcases hc with rfl | rfl | rfl | rfl
 ·exact h
 ·exact h
 ·exact h
 ·exact h
section
variable {u0 u1 u3 u5 u6 u7 u9 u10 u11 u12 u13 u14 u15 u16 u17 u18 u19 u20 u21 u22 u23 u24 u25 u26 u27 u28 u29 u30 u31 u32 u33 u34 u35 u36 u37 u38 u39 u40 u41 u42 u43 u44 u45 u46 u47 u48 u49 u50 u51 u52 u53 u54 u55 u56 u57 u58 u59 u60 u61 u62 u63 u64 u65 u66 u67 u68 u69 u70 u71 u72 u73 u74 u75 u76 : Value}
theorem finQM (gb rb mb x n c : Nat) (t : Int) (va : Option Addr) (R : List Nat) (P : List Pg) (vs : Nat -> Value) : Fre.finT opsQM.1 vs #[u0, u1, .pointer (some ⟨gb, 0, none⟩), u3, .pointer (some ⟨rb, 0, none⟩), u5, u6, u7, .pointer (some ⟨mb, 0, none⟩), u9, u10, u11, u12, u13, u14, u15, u16, u17, u18, u19, u20, u21, u22, u23, u24, u25, u26, u27, u28, u29, u30, u31, u32, u33, u34, u35, u36, u37, u38, u39, u40, u41, u42, u43, u44, u45, u46, u47, u48, u49, u50, u51, u52, u53, u54, u55, u56, u57, u58, u59, u60, u61, u62, u63, u64, u65, u66, u67, u68, u69, u70, u71, u72, u73, u74, u75, u76] 4 = #[u0, u1, .pointer (some ⟨gb, 0, none⟩), u3, .pointer (some ⟨rb, 0, none⟩), u5, u6, u7, .pointer (some ⟨mb, 0, none⟩), u9, u10, u11, u12, u13, u14, u15, u16, u17, u18, u19, u20, u21, u22, u23, u24, u25, u26, u27, u28, u29, u30, u31, u32, u33, u34, u35, u36, u37, u38, u39, u40, u41, u42, u43, u44, u45, u46, u47, u48, u49, u50, u51, u52, u53, u54, u55, u56, u57, u58, u59, u60, u61, u62, u63, u64, u65, u66, u67, u68, u69, u70, u71, u72, vs 0, vs 1, vs 2, vs 3] := by kernel_rfl
theorem regionQM (gb rb mb x n c : Nat) (t : Int) (va : Option Addr) (R : List Nat) (P : List Pg) (w0 : World) (h16 : R.length = 16) (hRl : ∀ r ∈ R, r < 18446744073709551616) (hright : rightR x R = true) (hg : geoB n t = true) (hn : P.length = n) (hsz : ∀ p ∈ P, p.size < 4611686018427387904) (hrn : ∀ p ∈ P, p.run < 4611686018427387904) (h0 : w0.heap[gb]? = some (.cells #[.int .i64 (n : Int), .int .i64 t] 31 (0, 0))) (h8 : w0.heap[mb]? = some (.cells (mtA x R (.slice va n c)) 28 (0, 0))) (hP : PgsAt w0 va P) {QQ : Exit -> Act -> World -> Prop} (hQ : ∀ (vs : Nat -> Value) w, (∀ j, j < 4 -> VQM gb rb mb x n c t va R P j (vs j) w) -> Fre.Kept w0 w -> wpList Tryz.prog opsQM.1 QQ (opsQM.1.toList.drop 4) ⟨#[u0, u1, .pointer (some ⟨gb, 0, none⟩), u3, .pointer (some ⟨rb, 0, none⟩), u5, u6, u7, .pointer (some ⟨mb, 0, none⟩), u9, u10, u11, u12, u13, u14, u15, u16, u17, u18, u19, u20, u21, u22, u23, u24, u25, u26, u27, u28, u29, u30, u31, u32, u33, u34, u35, u36, u37, u38, u39, u40, u41, u42, u43, u44, u45, u46, u47, u48, u49, u50, u51, u52, u53, u54, u55, u56, u57, u58, u59, u60, u61, u62, u63, u64, u65, u66, u67, u68, u69, u70, u71, u72, vs 0, vs 1, vs 2, vs 3], []⟩ w) : (Code.region 22 opsQM.1 true).wp Tryz.prog QQ ⟨#[u0, u1, .pointer (some ⟨gb, 0, none⟩), u3, .pointer (some ⟨rb, 0, none⟩), u5, u6, u7, .pointer (some ⟨mb, 0, none⟩), u9, u10, u11, u12, u13, u14, u15, u16, u17, u18, u19, u20, u21, u22, u23, u24, u25, u26, u27, u28, u29, u30, u31, u32, u33, u34, u35, u36, u37, u38, u39, u40, u41, u42, u43, u44, u45, u46, u47, u48, u49, u50, u51, u52, u53, u54, u55, u56, u57, u58, u59, u60, u61, u62, u63, u64, u65, u66, u67, u68, u69, u70, u71, u72, u73, u74, u75, u76], []⟩ w0 := by
 refine Fre.region_tailT 77 4 (by kernel_rfl) fitQM rfl tailQM (by rw [sizeQM]; omega) (VQM gb rb mb x n c t va R P) (kpQM gb rb mb x n c t va R P) (fun i hi => ?_) (fun vs w h1 h2 => ?_)
 case refine_2 =>
  have e9 := @finQM u0 u1 u3 u5 u6 u7 u9 u10 u11 u12 u13 u14 u15 u16 u17 u18 u19 u20 u21 u22 u23 u24 u25 u26 u27 u28 u29 u30 u31 u32 u33 u34 u35 u36 u37 u38 u39 u40 u41 u42 u43 u44 u45 u46 u47 u48 u49 u50 u51 u52 u53 u54 u55 u56 u57 u58 u59 u60 u61 u62 u63 u64 u65 u66 u67 u68 u69 u70 u71 u72 u73 u74 u75 u76 gb rb mb x n c t va R P vs
  have h9 := hQ vs w h1 h2
  rw [<- e9] at h9
  exact h9
 have hc : i = 0 \/ i = 1 \/ i = 2 \/ i = 3 := by omega
 rcases hc with rfl | rfl | rfl | rfl
 ·exact stQM_0 gb rb mb x n c t va R P _ rfl w0 h16 hRl hright hg hn hsz hrn h0 h8 hP
 ·exact stQM_1 gb rb mb x n c t va R P _ rfl w0 h16 hRl hright hg hn hsz hrn h0 h8 hP
 ·exact stQM_2 gb rb mb x n c t va R P _ rfl w0 h16 hRl hright hg hn hsz hrn h0 h8 hP
 ·exact stQM_3 gb rb mb x n c t va R P _  w0 h16 hRl hright hg hn hsz hrn h0 h8 hP
end
theorem head_right {b : List Nat} {x : Nat} {R : List Nat} (h : headN b = some (x, R)) : rightR x R = true := by
 unfold headN at h
 split at h
 ·cases h; decide
 ·split at h
  ·rename_i h1 h2
   cases h
   rw [Bool.and_eq_true] at h2
   exact h2.1
  ·cases h
theorem mapsPg_snoc : ∀ (L : List (List Nat)) (b : List Nat) (Q S : List Pg), mapsPg L = some Q -> parseP b = some S -> mapsPg (L ++ [b]) = some (Q ++ S)
 | [], b, Q, S, h, h2 => by
  cases h
  show mapsPg [b] = _
  unfold mapsPg
  rw [h2]
  show Option.map _ (mapsPg []) = _
  unfold mapsPg
  simp
 | a :: L, b, Q, S, h, h2 => by
  rw [List.cons_append]
  rw [mapsPg_cons] at h ⊢
  cases ha : parseP a with
  | none => rw [ha] at h; cases h
  | some A =>
   rw [ha] at h
   simp only at h ⊢
   cases hm : mapsPg L with
   | none => rw [hm] at h; cases h
   | some M =>
    rw [hm] at h
    cases h
    rw [mapsPg_snoc L b M S hm h2]
    simp
theorem mapsPg_bad : ∀ (L : List (List Nat)) (j : Nat) (b : List Nat), L[j]? = some b -> parseP b = none -> mapsPg L = none
 | [], j, b, h, _ => by simp at h
 | a :: L, 0, b, h, h2 => by
  have : a = b := by simpa using h
  subst this
  rw [mapsPg_cons, h2]
 | a :: L, j + 1, b, h, h2 => by
  rw [mapsPg_cons]
  cases parseP a with
  | none => rfl
  | some A =>
   simp only
   rw [mapsPg_bad L j b (by simpa using h) h2]; rfl
theorem mapsPg_size : ∀ (L : List (List Nat)) (Q : List Pg), (∀ l ∈ L, ∀ y ∈ l, y < 256) -> mapsPg L = some Q -> ∀ p ∈ Q, p.size < 4611686018427387904 /\ p.run < 4611686018427387904
 | [], Q, _, h, p, hp => by cases h; cases hp
 | a :: L, Q, hl, h, p, hp => by
  rw [mapsPg_cons] at h
  cases ha : parseP a with
  | none => rw [ha] at h; cases h
  | some A =>
   rw [ha] at h
   simp only at h
   cases hm : mapsPg L with
   | none => rw [hm] at h; cases h
   | some M =>
    rw [hm] at h
    cases h
    rcases List.mem_append.1 hp with h1 | h1
    ·have h2 := parseP_eq ha
     rw [h2.1] at h1
     unfold pgsN at h1
     obtain ⟨j, _, rfl⟩ := List.mem_map.1 h1
     have := pgOf_lt (pcOf a j) (fun y hy => hl a List.mem_cons_self y (List.mem_of_mem_drop (List.mem_of_mem_take hy)))
     omega
    ·exact mapsPg_size L M (fun l hl2 => hl l (List.mem_cons_of_mem _ hl2)) hm p h1
theorem mtA_set17 (x : Nat) (R : List Nat) (h16 : R.length = 16) (u v : Value) : (mtA x R u).setIfInBounds 17 v = mtA x R v := by
 obtain ⟨r0, r1, r2, r3, r4, r5, r6, r7, r8, r9, r10, r11, r12, r13, r14, r15, rfl⟩ := sixteenU h16
 rfl
theorem own_someR {w : World} {B n c z : Nat} {a : Option Addr} {xs : List Value} {e : TypeId} (h : w.ownsRow B e z (.slice a n c) n xs) (h0 : 0 < n) : ∃ q, a = some ⟨q, 0, none⟩ /\ B <= q /\ n <= c := by
 rcases h.2 with ⟨h9, h8⟩ | ⟨g9, cap9, cur9, e1, e2, e3, e4, _⟩
 ·omega
 ·cases e1; exact ⟨g9, rfl, e2, e4⟩
def metaH (n : Nat) (L : List (List Nat)) : Option (Nat × List Nat) -> Option (Nat × List Nat × List Pg)
 | none => none
 | some (x, R) => match mapsPg (L.drop 1) with
  | none => none
  | some P => if mayM x (P.take n) && !(P.drop n).any (fun p => !freeP p) then some (x, R, P.take n) else none
theorem meta_H (n : Nat) (L : List (List Nat)) : metaN n L = metaH n L (headN (L.getD 0 [])) := by
 unfold metaN metaH
 cases headN (L.getD 0 []) <;> rfl
theorem wpList_val {P : Program} {ops : Array Oper} {rest : List Oper} {o : Oper} {A : Act} {Q : Exit -> Act -> World -> Prop} {w w' : World} {v : Value} (hgd : o.guard = none) (h : (execOp A.eval o).run P w = .ok (.value v) w') (hK : wpList P ops Q rest (A.put o.dst v) w') : wpList P ops Q (o :: rest) A w :=
 wpList_plain hgd fun _ hk => by
  unfold Oper.wp
  rw [h]
  exact hk _ _ hK
theorem run_build_metaR (x : Nat) (R : List Nat) (h16 : R.length = 16) (E : Operand -> Value) (o : Oper) (ho : o.op = .build 28 #[(0, .tmp 25)]) (h25 : E (.tmp 25) = .agg (rtA x R)) (w : World) :
  (execOp E o).run Tryz.prog w = .ok (.value (.agg (mtA x R (.slice none 0 0)))) w := by
 obtain ⟨r0, r1, r2, r3, r4, r5, r6, r7, r8, r9, r10, r11, r12, r13, r14, r15, rfl⟩ := sixteenU h16
 unfold execOp
 simp only [ho]
 unfold rtA at h25
 unfold mtA
 simp only [List.map_cons, List.map_nil, List.cons_append, List.nil_append] at h25 ⊢
 go_simp
/-- what Parse answers -/
def RMParse (n : Nat) (w' : World) (e : Ending) (L : List (List Nat)) : Prop := match metaN n L with
 | none => ∃ x R a m c, R.length = 16 /\ e = .returned (.tuple #[.agg (mtA x R (.slice a m c)), .bool false])
 | some (x, R, P) => ∃ a c, e = .returned (.tuple #[.agg (mtA x R (.slice a n c)), .bool true]) /\ PgsAt w' a P
theorem rmparse_c (n : Nat) (t : Int) (hg : geoB n t = true) (g o k cap : Nat) (L : List (List Nat)) (hk : L.length = k) (hkm : k = 1 + mapsN n) (hcap : k <= cap) (h256 : ∀ l ∈ L, l.length = 256) (w : World) (hR : RowsAt w (some ⟨g, o, none⟩) L) :
  Calls Tryz.prog 27 #[.agg #[.int .i64 (n : Int), .int .i64 t], .slice (some ⟨g, o, none⟩) k cap] w fun e w' => RMParse n w' e L /\ Below w.heap.size w w' := by
 have hp := (geoB_iff n t).1 hg
 have hmn := mapsN_le n (by omega)
 have hm16 : n <= 16 * mapsN n := by unfold mapsN; omega
 obtain ⟨W, hW⟩ : ∃ W, W = (w.alloc (.cells #[.int .i64 (n : Int), .int .i64 t] 31)).alloc (.cells #[.int .u64 0, .int .u64 0, .int .u64 0, .int .u64 0, .int .u64 0, .int .u64 0, .int .u64 0, .int .u64 0, .int .u64 0, .int .u64 0, .int .u64 0, .int .u64 0, .int .u64 0, .int .u64 0, .int .u64 0, .int .u64 0, .int .u64 0, .slice none 0 0] 28) := ⟨_, rfl⟩
 have hgg : W.heap[w.heap.size]? = some (.cells #[.int .i64 (n : Int), .int .i64 t] 31 (0, 0)) := by rw [hW, heap_old' _ _ _ (by simp)]; exact heap_new' _ _
 have hzz : W.heap[w.heap.size + 1]? = some (.cells #[.int .u64 0, .int .u64 0, .int .u64 0, .int .u64 0, .int .u64 0, .int .u64 0, .int .u64 0, .int .u64 0, .int .u64 0, .int .u64 0, .int .u64 0, .int .u64 0, .int .u64 0, .int .u64 0, .int .u64 0, .int .u64 0, .int .u64 0, .slice none 0 0] 28 (0, 0)) := by
  rw [hW, show w.heap.size + 1 = (w.alloc (.cells #[.int .i64 (n : Int), .int .i64 t] 31)).heap.size by simp]; exact heap_new' _ _
 have hE : Below w.heap.size w W := by rw [hW]; exact (below_box w _).alloc (by simp) _
 have HG := Lib.hid hgg
 have HZ := Lib.hid hzz
 have HE := Lib.hid hE
 have HK := Lib.hid hk
 have HKM := Lib.hid (show k = 1 + mapsN n /\ k <= cap /\ mapsN n <= 4 /\ n <= 16 * mapsN n /\ 1 <= n /\ n <= 64 from ⟨hkm, hcap, hmn, hm16, by omega, by omega⟩)
 have H256 := Lib.hid h256
 have HRW := Lib.hid hR
 have HGB := Lib.hid hg
 obtain ⟨b0, hb0⟩ : ∃ b0, b0 = L.getD 0 [] := ⟨_, rfl⟩
 have hget0 : L[0]? = some b0 := by rw [hb0, List.getD_eq_getElem?_getD, List.getElem?_eq_getElem (by omega)]; rfl
 have HLT : Hid (∀ l ∈ L, ∀ y ∈ l, y < 256) := fun l hl => by
  obtain ⟨i, hi⟩ := List.getElem?_of_mem hl
  obtain ⟨_, _, _, _, _, _, h9⟩ := hR i l hi
  obtain ⟨_, _, _, h8, _⟩ := h9
  exact h8.1
 obtain ⟨g0, o0, v0, hv0, hgl0, hc0, hs0⟩ := hR 0 b0 hget0
 cases hv0
 obtain ⟨sa, sc, rfl, hsb, hnil0, hsc, hsm⟩ := hs0
 have hl0 : b0.length = 256 := h256 b0 (List.mem_of_getElem? hget0)
 obtain ⟨sg, so, rfl, _, _, _⟩ := hsb.2 (by omega)
 obtain ⟨m0, hm0⟩ : ∃ m0, m0 = b0.length := ⟨_, rfl⟩
 rw [<- hm0] at hc0
 have HH := Lib.hid (fun w' (h : Below w.heap.size w w') => rhparse_c sg so sc m0 b0 hl0 (by omega) (by omega) w' (hsb.up h (Nat.le_refl _)))
 have hcell0 : W.cell? ⟨g, o + 0, none⟩ = some (.slice (some ⟨sg, so, none⟩) m0 sc) := (hE.cell (p := ⟨g, o + 0, none⟩) hgl0).trans hc0
 rw [Nat.add_zero] at hcell0
 have HB0 := Lib.hid hb0
 have dk0 : (0 : Int) < (k : Int) := by omega
 have dk1 : decide ((0 : Int) < (k : Int)) = true := by simp; omega
 have hsr : ∀ w : World, (Instr.sliceAt 32 (.slice (some ⟨g, o, none⟩) k cap) (some (.int .i64 1)) none none).run Tryz.prog w = .ok (.slice (some ⟨g, subO o cap 1, none⟩) (k - 1) (cap - 1)) w := fun w => run_subRl g o k cap 1 (by omega) w
 obtain ⟨k1, hk1⟩ : ∃ k1, k1 = k - 1 := ⟨_, rfl⟩
 rw [<- hk1] at hsr
 have HK1 : Hid (k1 = mapsN n /\ k = k1 + 1) := ⟨by omega, by omega⟩
 have HRD : Hid (∀ w', Below w.heap.size w w' -> RowsAt w' (some ⟨g, subO o cap 1, none⟩) (L.drop 1)) := fun w' h => (hR.up h (Nat.le_refl _)).drop 1 (by omega)
 clear hgg hzz hg hk hkm hcap h256 hR hb0 hget0 hgl0 hc0 hsb hnil0 hsc hsm hl0 hm0 hp hmn hm16 hk1 hE
 go_enter Tryz.func27, Tryz.ntmps27
 rw [hW] at hcell0
 go_wp2_with fail
 rw [<- hW]
 rw [<- hW] at hcell0
 clear hW
 refine (HH.out W HE.out).mono ?_
 rintro e w1 ⟨rfl, hb1⟩
 have HG1 := Lib.hid ((hb1.block _ (lt_of_block HG.out)).trans HG.out)
 have HZ1 := Lib.hid ((hb1.block _ (lt_of_block HZ.out)).trans HZ.out)
 have HE1 : Hid (Below w.heap.size w w1) := HE.out.trans (hb1.mono HE.out.size)
 have HSZ1 : Hid (w.heap.size + 2 <= w1.heap.size) := by have := lt_of_block HZ1.out; show _ <= _; omega
 clear hb1 HG HZ HE HH hcell0 dk0 dk1
 obtain ⟨hd, hhd⟩ : ∃ hd, hd = headN b0 := ⟨_, rfl⟩
 rw [<- hhd]
 have HM : Hid (metaN n L = metaH n L hd) := by show _ = _; rw [hhd, HB0.out]; exact meta_H n L
 have HHD := Lib.hid hhd
 have HB0L : Hid (∀ y ∈ b0, y < 256) := HLT.out b0 (by
  rw [HB0.out, List.getD_eq_getElem?_getD]
  have : 0 < L.length := by have := HK.out; have := HK1.out; omega
  rw [List.getElem?_eq_getElem this]; exact List.getElem_mem _)
 clear hhd
 have HQ1 : Hid ((w1.alloc (.cells #[.int .u64 0, .int .u64 0, .int .u64 0, .int .u64 0, .int .u64 0, .int .u64 0, .int .u64 0, .int .u64 0, .int .u64 0, .int .u64 0, .int .u64 0, .int .u64 0, .int .u64 0, .int .u64 0, .int .u64 0, .int .u64 0, .int .u64 0] 25)).heap[w1.heap.size]? = some (.cells (rtA 0 zeroR) 25 (0, 0))) := heap_new' _ _
 have HG2 : Hid ((w1.alloc (.cells #[.int .u64 0, .int .u64 0, .int .u64 0, .int .u64 0, .int .u64 0, .int .u64 0, .int .u64 0, .int .u64 0, .int .u64 0, .int .u64 0, .int .u64 0, .int .u64 0, .int .u64 0, .int .u64 0, .int .u64 0, .int .u64 0, .int .u64 0] 25)).heap[w.heap.size]? = some (.cells #[.int .i64 (n : Int), .int .i64 t] 31 (0, 0))) := (heap_old' _ _ _ (lt_of_block HG1.out)).trans HG1.out
 have HZ2 : Hid ((w1.alloc (.cells #[.int .u64 0, .int .u64 0, .int .u64 0, .int .u64 0, .int .u64 0, .int .u64 0, .int .u64 0, .int .u64 0, .int .u64 0, .int .u64 0, .int .u64 0, .int .u64 0, .int .u64 0, .int .u64 0, .int .u64 0, .int .u64 0, .int .u64 0] 25)).heap[w.heap.size + 1]? = some (.cells #[.int .u64 0, .int .u64 0, .int .u64 0, .int .u64 0, .int .u64 0, .int .u64 0, .int .u64 0, .int .u64 0, .int .u64 0, .int .u64 0, .int .u64 0, .int .u64 0, .int .u64 0, .int .u64 0, .int .u64 0, .int .u64 0, .int .u64 0, .slice none 0 0] 28 (0, 0))) := (heap_old' _ _ _ (lt_of_block HZ1.out)).trans HZ1.out
 have HE2 : Hid (Below w.heap.size w (w1.alloc (.cells #[.int .u64 0, .int .u64 0, .int .u64 0, .int .u64 0, .int .u64 0, .int .u64 0, .int .u64 0, .int .u64 0, .int .u64 0, .int .u64 0, .int .u64 0, .int .u64 0, .int .u64 0, .int .u64 0, .int .u64 0, .int .u64 0, .int .u64 0] 25))) := HE1.out.trans ((below_box w1 _).mono HE1.out.size)
 cases hd with
 | none =>
  have HF : Hid (metaN n L = none) := HM.out
  simp only [rheadV]
  go_wp2_with (first
   | (refine wpList_store_row rfl 25 (.tmp 6) (.tmp 20) rfl w1.heap.size (rtA 0 zeroR) rfl rfl 25 _ HQ1.out (by rw [roots17R]; rfl) rfl (rtA_one _ _) ?_
      have HZ3 : Hid (((w1.alloc (.cells #[.int .u64 0, .int .u64 0, .int .u64 0, .int .u64 0, .int .u64 0, .int .u64 0, .int .u64 0, .int .u64 0, .int .u64 0, .int .u64 0, .int .u64 0, .int .u64 0, .int .u64 0, .int .u64 0, .int .u64 0, .int .u64 0, .int .u64 0] 25)).setRow w1.heap.size (rtA 0 zeroR)).heap[w.heap.size + 1]? = some (.cells #[.int .u64 0, .int .u64 0, .int .u64 0, .int .u64 0, .int .u64 0, .int .u64 0, .int .u64 0, .int .u64 0, .int .u64 0, .int .u64 0, .int .u64 0, .int .u64 0, .int .u64 0, .int .u64 0, .int .u64 0, .int .u64 0, .int .u64 0, .slice none 0 0] 28 (0, 0))) := (by show _ = _; rw [setRow_other _ _ _ _ (by have := HSZ1.out; omega)]; exact HZ2.out)
      have HE3 : Hid (Below w.heap.size w ((w1.alloc (.cells #[.int .u64 0, .int .u64 0, .int .u64 0, .int .u64 0, .int .u64 0, .int .u64 0, .int .u64 0, .int .u64 0, .int .u64 0, .int .u64 0, .int .u64 0, .int .u64 0, .int .u64 0, .int .u64 0, .int .u64 0, .int .u64 0, .int .u64 0] 25)).setRow w1.heap.size (rtA 0 zeroR))) := below_setRow HE2.out (by have := HSZ1.out; omega) _
      generalize (w1.alloc (.cells #[.int .u64 0, .int .u64 0, .int .u64 0, .int .u64 0, .int .u64 0, .int .u64 0, .int .u64 0, .int .u64 0, .int .u64 0, .int .u64 0, .int .u64 0, .int .u64 0, .int .u64 0, .int .u64 0, .int .u64 0, .int .u64 0, .int .u64 0] 25)).setRow w1.heap.size (rtA 0 zeroR) = w3 at *)
   | (refine wpList_store_row rfl 28 (.tmp 4) (.tmp 24) rfl (w.heap.size + 1) (mtA 0 zeroR (.slice none 0 0)) rfl rfl 28 _ HZ3.out (by rw [meta18R]; rfl) rfl (mtA_one _ _ _ _ _) ?_)
   | fail)
  refine bodyPost_ret (results_row_tmp rfl _ _ (w.heap.size + 1) _ (mtA 0 zeroR (.slice none 0 0)) (0, 0) _ rfl (setRow_heap _ _ _ _ _ _ HZ3.out) Tryz.underlying28 rfl (by rw [meta18R]; rfl)) rfl ?_
  refine ⟨?_, below_setRow HE3.out (by omega) _⟩
  unfold RMParse; rw [HF.out]
  exact ⟨0, zeroR, none, 0, 0, rfl, rfl⟩
 | some xr =>
  obtain ⟨x, R⟩ := xr
  have h16 := hdL_16 HHD.out.symm
  have HXR : Hid (R.length = 16 /\ (∀ r ∈ R, r < 18446744073709551616) /\ rightR x R = true) := ⟨h16, (headN_facts HB0L.out HHD.out.symm).2, head_right HHD.out.symm⟩
  simp only [rheadV]
  have HRWL : Hid ((rtA x R).size = 17) := by show _ = _; rw [rtA_size, h16]
  go_wp2_with (first
   | (refine wpList_store_row rfl 25 (.tmp 6) (.tmp 20) rfl w1.heap.size (rtA x R) rfl rfl 25 _ HQ1.out (by rw [roots17R, HRWL.out]) (by rw [HRWL.out]; rfl) (rtA_one _ _) ?_
      have HQ3 : Hid (((w1.alloc (.cells #[.int .u64 0, .int .u64 0, .int .u64 0, .int .u64 0, .int .u64 0, .int .u64 0, .int .u64 0, .int .u64 0, .int .u64 0, .int .u64 0, .int .u64 0, .int .u64 0, .int .u64 0, .int .u64 0, .int .u64 0, .int .u64 0, .int .u64 0] 25)).setRow w1.heap.size (rtA x R)).heap[w1.heap.size]? = some (.cells (rtA x R) 25 (0, 0))) := setRow_heap _ _ _ _ _ _ HQ1.out
      have HG3 : Hid (((w1.alloc (.cells #[.int .u64 0, .int .u64 0, .int .u64 0, .int .u64 0, .int .u64 0, .int .u64 0, .int .u64 0, .int .u64 0, .int .u64 0, .int .u64 0, .int .u64 0, .int .u64 0, .int .u64 0, .int .u64 0, .int .u64 0, .int .u64 0, .int .u64 0] 25)).setRow w1.heap.size (rtA x R)).heap[w.heap.size]? = some (.cells #[.int .i64 (n : Int), .int .i64 t] 31 (0, 0))) := (by show _ = _; rw [setRow_other _ _ _ _ (by have := HSZ1.out; omega)]; exact HG2.out)
      have HZ3 : Hid (((w1.alloc (.cells #[.int .u64 0, .int .u64 0, .int .u64 0, .int .u64 0, .int .u64 0, .int .u64 0, .int .u64 0, .int .u64 0, .int .u64 0, .int .u64 0, .int .u64 0, .int .u64 0, .int .u64 0, .int .u64 0, .int .u64 0, .int .u64 0, .int .u64 0] 25)).setRow w1.heap.size (rtA x R)).heap[w.heap.size + 1]? = some (.cells #[.int .u64 0, .int .u64 0, .int .u64 0, .int .u64 0, .int .u64 0, .int .u64 0, .int .u64 0, .int .u64 0, .int .u64 0, .int .u64 0, .int .u64 0, .int .u64 0, .int .u64 0, .int .u64 0, .int .u64 0, .int .u64 0, .int .u64 0, .slice none 0 0] 28 (0, 0))) := (by show _ = _; rw [setRow_other _ _ _ _ (by have := HSZ1.out; omega)]; exact HZ2.out)
      have HE3 : Hid (Below w.heap.size w ((w1.alloc (.cells #[.int .u64 0, .int .u64 0, .int .u64 0, .int .u64 0, .int .u64 0, .int .u64 0, .int .u64 0, .int .u64 0, .int .u64 0, .int .u64 0, .int .u64 0, .int .u64 0, .int .u64 0, .int .u64 0, .int .u64 0, .int .u64 0, .int .u64 0] 25)).setRow w1.heap.size (rtA x R))) := below_setRow HE2.out (by have := HSZ1.out; omega) _
      have HW3 : Hid (w1.heap.size < ((w1.alloc (.cells #[.int .u64 0, .int .u64 0, .int .u64 0, .int .u64 0, .int .u64 0, .int .u64 0, .int .u64 0, .int .u64 0, .int .u64 0, .int .u64 0, .int .u64 0, .int .u64 0, .int .u64 0, .int .u64 0, .int .u64 0, .int .u64 0, .int .u64 0] 25)).setRow w1.heap.size (rtA x R)).heap.size) := lt_of_block HQ3.out
      generalize (w1.alloc (.cells #[.int .u64 0, .int .u64 0, .int .u64 0, .int .u64 0, .int .u64 0, .int .u64 0, .int .u64 0, .int .u64 0, .int .u64 0, .int .u64 0, .int .u64 0, .int .u64 0, .int .u64 0, .int .u64 0, .int .u64 0, .int .u64 0, .int .u64 0] 25)).setRow w1.heap.size (rtA x R) = w3 at *)
   | (refine wpList_load_row rfl 25 (.tmp 6) rfl w1.heap.size rfl _ _ _ _ HQ3.out Tryz.underlying25 rfl (by rw [roots17R, HRWL.out]) ?_)
   | (refine wpList_val rfl (run_build_metaR x R h16 _ _ rfl rfl _) ?_)
   | (refine wpList_store_row rfl 28 (.tmp 8) (.tmp 26) rfl w3.heap.size (mtA x R (.slice none 0 0)) rfl rfl 28 _ (heap_new' w3 _) (by rw [meta18R, mtA_size, h16]) (by rw [mtA_size, h16]; rfl) (mtA_one _ _ _ _ _) ?_
      have HM5 : Hid (((w3.alloc (.cells #[.int .u64 0, .int .u64 0, .int .u64 0, .int .u64 0, .int .u64 0, .int .u64 0, .int .u64 0, .int .u64 0, .int .u64 0, .int .u64 0, .int .u64 0, .int .u64 0, .int .u64 0, .int .u64 0, .int .u64 0, .int .u64 0, .int .u64 0, .slice none 0 0] 28)).setRow w3.heap.size (mtA x R (.slice none 0 0))).heap[w3.heap.size]? = some (.cells (mtA x R (.slice none 0 0)) 28 (0, 0))) := setRow_heap _ _ _ _ _ _ (heap_new' w3 _)
      have HG5 : Hid (((w3.alloc (.cells #[.int .u64 0, .int .u64 0, .int .u64 0, .int .u64 0, .int .u64 0, .int .u64 0, .int .u64 0, .int .u64 0, .int .u64 0, .int .u64 0, .int .u64 0, .int .u64 0, .int .u64 0, .int .u64 0, .int .u64 0, .int .u64 0, .int .u64 0, .slice none 0 0] 28)).setRow w3.heap.size (mtA x R (.slice none 0 0))).heap[w.heap.size]? = some (.cells #[.int .i64 (n : Int), .int .i64 t] 31 (0, 0))) := (by show _ = _; rw [setRow_other _ _ _ _ (by have := HSZ1.out; have := HW3.out; omega), heap_old' _ _ _ (by have := HSZ1.out; have := HW3.out; omega)]; exact HG3.out)
      have HZ5 : Hid (((w3.alloc (.cells #[.int .u64 0, .int .u64 0, .int .u64 0, .int .u64 0, .int .u64 0, .int .u64 0, .int .u64 0, .int .u64 0, .int .u64 0, .int .u64 0, .int .u64 0, .int .u64 0, .int .u64 0, .int .u64 0, .int .u64 0, .int .u64 0, .int .u64 0, .slice none 0 0] 28)).setRow w3.heap.size (mtA x R (.slice none 0 0))).heap[w.heap.size + 1]? = some (.cells #[.int .u64 0, .int .u64 0, .int .u64 0, .int .u64 0, .int .u64 0, .int .u64 0, .int .u64 0, .int .u64 0, .int .u64 0, .int .u64 0, .int .u64 0, .int .u64 0, .int .u64 0, .int .u64 0, .int .u64 0, .int .u64 0, .int .u64 0, .slice none 0 0] 28 (0, 0))) := (by show _ = _; rw [setRow_other _ _ _ _ (by have := HSZ1.out; have := HW3.out; omega), heap_old' _ _ _ (by have := HSZ1.out; have := HW3.out; omega)]; exact HZ3.out)
      have HE5 : Hid (Below w.heap.size w ((w3.alloc (.cells #[.int .u64 0, .int .u64 0, .int .u64 0, .int .u64 0, .int .u64 0, .int .u64 0, .int .u64 0, .int .u64 0, .int .u64 0, .int .u64 0, .int .u64 0, .int .u64 0, .int .u64 0, .int .u64 0, .int .u64 0, .int .u64 0, .int .u64 0, .slice none 0 0] 28)).setRow w3.heap.size (mtA x R (.slice none 0 0)))) := below_setRow (HE3.out.trans ((below_box w3 _).mono HE3.out.size)) HE3.out.size _
      have HS5 : Hid (w.heap.size + 2 <= w3.heap.size) := (by have := HSZ1.out; have := HW3.out; show _ <= _; omega)
      generalize hmb : w3.heap.size = mb at *
      generalize (w3.alloc (.cells #[.int .u64 0, .int .u64 0, .int .u64 0, .int .u64 0, .int .u64 0, .int .u64 0, .int .u64 0, .int .u64 0, .int .u64 0, .int .u64 0, .int .u64 0, .int .u64 0, .int .u64 0, .int .u64 0, .int .u64 0, .int .u64 0, .int .u64 0, .slice none 0 0] 28)).setRow mb (mtA x R (.slice none 0 0)) = w5 at *)
   | fail)
  clear HQ1 HG1 HZ1 HE1 HG2 HZ2 HE2 HQ3 HG3 HZ3 HE3 HW3 HSZ1 hmb HHD HB0L hsr HB0 HRW
  obtain ⟨oo, hoo⟩ : ∃ oo, oo = subO o cap 1 := ⟨_, rfl⟩
  obtain ⟨cp, hcp⟩ : ∃ cp, cp = cap - 1 := ⟨_, rfl⟩
  rw [<- hoo, <- hcp]
  rw [<- hoo] at HRD
  clear hoo hcp
  have HL1 : Hid ((L.drop 1).length = k1 /\ (∀ l ∈ L.drop 1, l.length = 256) /\ (∀ l ∈ L.drop 1, ∀ y ∈ l, y < 256)) := ⟨by rw [List.length_drop, HK.out, HK1.out.2, Nat.add_sub_cancel], fun l hl => H256.out l (List.mem_of_mem_drop hl), fun l hl => HLT.out l (List.mem_of_mem_drop hl)⟩
  clear HLT H256 HK
  unfold metaH at HM
  generalize L.drop 1 = D at *
  go_loopw [10, 11, 12, 30] (fun v10 v11 v12 vi wr => ∃ j : Nat, Hid (j <= k1) /\ vi = .int .i64 (j : Int) /\ ∃ a m c Q, Hid (wr.heap[mb]? = some (.cells (mtA x R (.slice a m c)) 28 (0, 0))) /\ Hid (m = 16 * j) /\ Hid (mapsPg (D.take j) = some Q) /\ Hid (wr.ownsRow (mb + 1) 78 5 (.slice a m c) m (cellsP Q)) /\ Hid (mb < wr.heap.size) /\ Hid (wr.heap[w.heap.size]? = some (.cells #[.int .i64 (n : Int), .int .i64 t] 31 (0, 0))) /\ Hid (wr.heap[w.heap.size + 1]? = some (.cells #[.int .u64 0, .int .u64 0, .int .u64 0, .int .u64 0, .int .u64 0, .int .u64 0, .int .u64 0, .int .u64 0, .int .u64 0, .int .u64 0, .int .u64 0, .int .u64 0, .int .u64 0, .int .u64 0, .int .u64 0, .int .u64 0, .int .u64 0, .slice none 0 0] 28 (0, 0))) /\ Hid (Below w.heap.size w wr)) (fun _ _ _ vi _ => k1 - (intOf vi).toNat)
  case atStart => exact ⟨0, Nat.zero_le _, rfl, none, 0, 0, [], HM5.out, rfl, rfl, World.ownsRow_nil _ _ _ _, lt_of_block HM5.out, HG5.out, HZ5.out, HE5.out⟩
  case round =>
   clear HM5 HG5 HZ5 HE5
   obtain ⟨j, hj, rfl, a, m, c, Q, hmb, hm, hQ, hown, hsz, hgb, hrb, hbel⟩ := hrel
   by_cases hlt : j < k1
   ·have hd : decide ((j : Int) < (k1 : Int)) = true := by simp; omega
    have dl : (j : Int) < (k1 : Int) := by omega
    have d0 : ¬ (j : Int) < 0 := by omega
    have ek : IntKind.i64.wrap ((j : Int) + 1) = (j : Int) + 1 := by have := HKM.out; have := HK1.out; exact IntWalk.i64_in _ (by omega)
    have hjD : j < D.length := by rw [HL1.out.1]; exact hlt
    obtain ⟨b, hb⟩ : ∃ b, b = D[j] := ⟨_, rfl⟩
    have hget : D[j]? = some b := by rw [hb]; exact List.getElem?_eq_getElem hjD
    obtain ⟨g', o', v', e9, hgl, hcell, hsl⟩ := HRD.out wr hbel.out j b hget
    cases e9
    obtain ⟨sa, sc, rfl, hsb, hnil, hsc, hsm⟩ := hsl
    have hl : b.length = 256 := HL1.out.2.1 b (List.mem_of_getElem? hget)
    obtain ⟨sg, so, rfl, _, _, _⟩ := hsb.2 (by omega)
    obtain ⟨mj, hmj⟩ : ∃ mj, mj = b.length := ⟨_, rfl⟩
    rw [<- hmj] at hcell
    have hmj2 : mj = 256 := by omega
    have dm1 : (mj : Int) = 256 := by omega
    have dm2 : ((mj : Int) == 256) = true := by rw [dm1]; rfl
    have HC := Lib.hid (rpparse_c sg so sc mj b hl hmj2 (by omega) wr hsb)
    have HGET := Lib.hid hget
    have HJ := Lib.hid hlt
    have a17 := (cells_at hmb.out 17).trans (mtA_get17 _ _ _ h16)
    have htk : D.take (j + 1) = D.take j ++ [b] := by rw [List.take_add_one, hget]; rfl
    have HTK := Lib.hid htk
    clear hb hget hgl hsb hnil hsc hsm hl hmj hmj2 htk hjD hj hlt a17
    go_wp2_with fail
    refine HC.out.mono ?_
    rintro e w6 ⟨hp6, hb6⟩
    have HM6 := Lib.hid ((hb6.block _ (lt_of_block hmb.out)).trans hmb.out)
    have HG6 := Lib.hid ((hb6.block _ (lt_of_block hgb.out)).trans hgb.out)
    have HZ6 := Lib.hid ((hb6.block _ (lt_of_block hrb.out)).trans hrb.out)
    have HO6 := Lib.hid (own_up hown.out hb6)
    have HE6 : Hid (Below w.heap.size w w6) := hbel.out.trans (hb6.mono hbel.out.size)
    have HS6 : Hid (mb < wr.heap.size /\ wr.heap.size <= w6.heap.size) := ⟨hsz.out, hb6.size⟩
    clear hb6 hmb hgb hrb hown hbel hsz HC dm1 dm2 hcell
    unfold RParsePg at hp6
    cases hps : parseP b with
    | none =>
     rw [hps] at hp6
     simp only at hp6
     subst hp6
     have HF : Hid (metaN n L = none) := by
      show _ = _
      rw [HM.out, mapsPg_bad D j b HGET.out hps]
     clear hps
     go_wp2_with (first
      | (refine wpList_store_row rfl 28 (.tmp 4) (.tmp 45) rfl (w.heap.size + 1) (mtA 0 zeroR (.slice none 0 0)) rfl rfl 28 _ HZ6.out (by rw [meta18R]; rfl) rfl (mtA_one _ _ _ _ _) ?_)
      | fail)
     refine bodyPost_ret (results_row_tmp rfl _ _ (w.heap.size + 1) _ (mtA 0 zeroR (.slice none 0 0)) (0, 0) _ rfl (setRow_heap _ _ _ _ _ _ HZ6.out) Tryz.underlying28 rfl (by rw [meta18R]; rfl)) rfl ?_
     refine ⟨?_, below_setRow HE6.out (by omega) _⟩
     unfold RMParse; rw [HF.out]
     exact ⟨0, zeroR, none, 0, 0, rfl, rfl⟩
    | some S =>
     rw [hps] at hp6
     simp only at hp6
     obtain ⟨v6, rfl, hos⟩ := hp6
     obtain ⟨sa6, sc6, rfl⟩ := own_sliceR hos
     obtain ⟨q6, rfl, _, _⟩ := own_someR hos (by omega)
     have HPS := Lib.hid (pgs_of_ownR hos)
     have HSL : Hid (S.length = 16) := parseP_len hps
     have HQS : Hid (mapsPg (D.take (j + 1)) = some (Q ++ S)) := by
      show _ = _
      rw [HTK.out]
      exact mapsPg_snoc _ b Q S hQ.out hps
     have a17 := (cells_at HM6.out 17).trans (mtA_get17 _ _ _ h16)
     have f17 := free_at HM6.out 17
     clear hps hos
     go_wp2_with (first
      | (refine wpList_append_pgsR (v := .slice a m c) (base := mb + 1) (n := m) (m := 16) (M := S) rfl (.tmp 47) (.tmp 48) rfl rfl HO6.out rfl HSL.out HPS.out (fun h => by cases h) (fun q h => by cases h; rfl) (by have := hm.out; have := HJ.out; have := HK1.out; have := HKM.out; omega) (by have := HS6.out; omega) ?_
         intro v7 w7 hown7 hgr7
         have hbo : ∀ q, (Value.slice a m c).ownBlock = some q -> mb + 1 <= q := fun q h => own_base HO6.out q h
         have hM7 := (hgr7.block _ (lt_of_block HM6.out) (fun e => by have := hbo _ e.symm; omega)).trans HM6.out
         have HG7 := Lib.hid ((hgr7.block _ (lt_of_block HG6.out) (fun e => by have := hbo _ e.symm; have := HS5.out; omega)).trans HG6.out)
         have HZ7 := Lib.hid ((hgr7.block _ (lt_of_block HZ6.out) (fun e => by have := hbo _ e.symm; have := HS5.out; omega)).trans HZ6.out)
         have HE7 : Hid (Below w.heap.size w w7) := HE6.out.grown hgr7 HE6.out.size (fun q h => by have := hbo q h; have := HS5.out; omega)
         have g17 := free_at hM7 17
         have d17 := (cells_at hM7 17).trans (mtA_get17 _ _ _ h16)
         have HM7 := Lib.hid hM7
         have HO7 := Lib.hid hown7
         have HS7 : Hid (w6.heap.size <= w7.heap.size) := hgr7.size
         obtain ⟨a7, c7, hv7⟩ := own_sliceR hown7
         subst hv7
         clear hown7 hgr7 hM7 hbo)
      | fail)
     have nb := block_at HM7.out 17 (.slice a7 (m + 16) c7)
     rw [mtA_set17 x R h16] at nb
     have HN1 := Lib.hid nb
     have HN2 : Hid ((w7.setCell ⟨mb, 17, none⟩ (.slice a7 (m + 16) c7)).ownsRow (mb + 1) 78 5 (.slice a7 (m + 16) c7) (m + 16) (cellsP (Q ++ S))) := ownsRow_setCell_below HO7.out (Nat.lt_succ_self _) _
     have HN3 : Hid ((w7.setCell ⟨mb, 17, none⟩ (.slice a7 (m + 16) c7)).heap[w.heap.size]? = some (.cells #[.int .i64 (n : Int), .int .i64 t] 31 (0, 0))) := by show _ = _; rw [setCell_other _ _ _ _ (by have := HS5.out; omega)]; exact HG7.out
     have HN4 : Hid ((w7.setCell ⟨mb, 17, none⟩ (.slice a7 (m + 16) c7)).heap[w.heap.size + 1]? = some (.cells #[.int .u64 0, .int .u64 0, .int .u64 0, .int .u64 0, .int .u64 0, .int .u64 0, .int .u64 0, .int .u64 0, .int .u64 0, .int .u64 0, .int .u64 0, .int .u64 0, .int .u64 0, .int .u64 0, .int .u64 0, .int .u64 0, .int .u64 0, .slice none 0 0] 28 (0, 0))) := by show _ = _; rw [setCell_other _ _ _ _ (by have := HS5.out; omega)]; exact HZ7.out
     have HN5 : Hid (Below w.heap.size w (w7.setCell ⟨mb, 17, none⟩ (.slice a7 (m + 16) c7))) := HE7.out.setCell (by have := HS5.out; show w.heap.size <= mb; omega) _
     have HMS : Hid (m + 16 = 16 * (j + 1) /\ j + 1 <= k1) := ⟨by have := hm.out; omega, by have := HJ.out; omega⟩
     clear nb HM6 HG6 HZ6 HO6 HE6 HM7 HO7 HG7 HZ7 HE7 a17 f17
     go_roundw
     case rel => exact ⟨j + 1, HMS.out.2, by go_num, a7, m + 16, c7, Q ++ S, HN1.out, HMS.out.1, HQS.out, HN2.out, lt_of_block HN1.out, HN3.out, HN4.out, HN5.out⟩
     case measure => simp [intOf]; have := HJ.out; omega
   ·have hjk : j = k1 := by have h : j <= k1 := hj; omega
    have hd : decide ((j : Int) < (k1 : Int)) = false := by simp; omega
    have dl : ¬ (j : Int) < (k1 : Int) := by omega
    have HQF : Hid (mapsPg D = some Q) := by
     have h := hQ.out
     rw [hjk, List.take_of_length_le (by rw [HL1.out.1]; exact Nat.le_refl _)] at h
     exact h
    have HMN : Hid (m = 16 * mapsN n /\ n <= m /\ m <= 64 /\ 1 <= n) := by have := hm.out; have := HK1.out; have := HKM.out; exact ⟨by omega, by omega, by omega, by omega⟩
    obtain ⟨q, rfl, hqb, hmc⟩ := own_someR hown.out (by have := HMN.out; omega)
    have hQl : Q.length = m := by have h := mapsPg_len _ _ HQF.out; rw [HL1.out.1] at h; rw [h, hm.out, hjk]
    have HQL := Lib.hid hQl
    have HSZQ := Lib.hid (mapsPg_size D Q HL1.out.2.2 HQF.out)
    have HPQ := Lib.hid (pgs_of_ownR hown.out)
    have a17 := (cells_at hmb.out 17).trans (mtA_get17 _ _ _ h16)
    have n0 := (cells_at hgb.out 0).trans (show _ = some (Value.int .i64 (n : Int)) from rfl)
    have hs1 : ∀ w : World, (Instr.sliceAt 26 (.slice (some ⟨q, 0, none⟩) m c) (some (.int .i64 (n : Int))) none none).run Tryz.prog w = .ok (.slice (some ⟨q, subP 0 c n, none⟩) (m - n) (c - n)) w := fun w => run_subPlR q 0 m c n (by have := HMN.out; omega) w
    have hs2 : ∀ w : World, (Instr.sliceAt 26 (.slice (some ⟨q, 0, none⟩) m c) none (some (.int .i64 (n : Int))) none).run Tryz.prog w = .ok (.slice (some ⟨q, 0, none⟩) n c) w := fun w => run_subPhR q 0 m c n (by have := HMN.out; omega) w
    have HPD := Lib.hid (HPQ.out.drop n (by rw [hQl]; exact hmc))
    obtain ⟨r, hr⟩ : ∃ r, r = m - n := ⟨_, rfl⟩
    obtain ⟨qo, hqo⟩ : ∃ qo, qo = subP 0 c n := ⟨_, rfl⟩
    obtain ⟨cn, hcn⟩ : ∃ cn, cn = c - n := ⟨_, rfl⟩
    rw [<- hr, <- hqo, <- hcn] at hs1
    rw [<- hqo] at HPD
    have HRR : Hid (r = m - n) := hr
    have HMB := Lib.hid hmb.out
    have HGB2 := Lib.hid hgb.out
    have HRB2 := Lib.hid hrb.out
    have HBL := Lib.hid hbel.out
    have HQB : Hid (mb + 1 <= q) := hqb
    clear hjk hj hlt hQ hm hQl hown hqb hmc hr hqo hcn hmb hgb hrb hbel hsz
    go_wp2
    generalize wr = wO at *
    go_loopw [14, 58] (fun v14 vi wr => ∃ i : Nat, Hid (i <= r) /\ vi = .int .i64 (i : Int) /\ Hid (((Q.drop n).take i).any (fun p => !freeP p) = false) /\ Hid (Below wO.heap.size wO wr)) (fun _ vi _ => r - (intOf vi).toNat)
    case atStart => exact ⟨0, Nat.zero_le _, rfl, rfl, Below.refl _ _⟩
    case round =>
     obtain ⟨i, hi, rfl, hal, hbq⟩ := hrel
     by_cases hil : i < r
     ·have hd2 : decide ((i : Int) < (r : Int)) = true := by simp; omega
      have dl2 : (i : Int) < (r : Int) := by omega
      have d02 : ¬ (i : Int) < 0 := by omega
      have ei : IntKind.i64.wrap ((i : Int) + 1) = (i : Int) + 1 := by have := HRR.out; have := HMN.out; exact IntWalk.i64_in _ (by omega)
      have hiQ : i < (Q.drop n).length := by rw [List.length_drop, HQL.out, <- HRR.out]; exact hil
      obtain ⟨p, hp⟩ : ∃ p, p = (Q.drop n)[i] := ⟨_, rfl⟩
      have hget : (Q.drop n)[i]? = some p := by rw [hp]; exact List.getElem?_eq_getElem hiQ
      obtain ⟨g', o', e9, hgl, hcell⟩ := HPD.out i p hget
      cases e9
      have HCR : Hid (wr.rangeAt q (qo + i * 5) (pgA p).toList) := fun j u hu => (hbq.out.cell (p := ⟨q, qo + i * 5 + j, none⟩) hgl).trans (hcell j u hu)
      have HZP : Hid ((wr.alloc (.cells #[.int .i64 0, .int .i64 0, .int .i64 0, .int .i64 0, .int .u64 0] 78)).heap[wr.heap.size]? = some (.cells (pgA ⟨0, 0, 0, 0, 0⟩) 78 (0, 0))) := heap_new' _ _
      have HE8 : Hid (Below wr.heap.size wr (wr.alloc (.cells #[.int .i64 0, .int .i64 0, .int .i64 0, .int .i64 0, .int .u64 0] 78))) := below_box wr _
      have HEQ : Hid (∀ w, (binOp .eql 78 (.agg (pgA p)) (.agg (pgA ⟨0, 0, 0, 0, 0⟩))).run Tryz.prog w = .ok (.bool (freeP p)) w) := fun w => by
       rw [eql_pgR]; rfl
      have HSN : Hid (((Q.drop n).take (i + 1)).any (fun p => !freeP p) = !freeP p) := by show _ = _; rw [List.take_add_one, hget, List.any_append, hal.out]; simp
      have HBAD : Hid (freeP p = false -> (Q.drop n).any (fun p => !freeP p) = true) := fun h => List.any_eq_true.2 ⟨p, List.mem_of_getElem? hget, by rw [h]; rfl⟩
      have HI := Lib.hid hil
      generalize freeP p = fr at *
      clear hp hget hgl hcell hiQ hil hi hal
      cases fr with
      | true =>
       go_wp2_with (first
        | (refine wpList_load_mid rfl 78 (.tmp 60) rfl q (qo + i * 5) rfl _ _ HCR.out Tryz.underlying78 rfl (by rw [page5R]; rfl) ?_)
        | (refine wpList_store_row rfl 78 (.tmp 14) (.tmp 61) rfl wr.heap.size (pgA p) rfl rfl 78 _ HZP.out (by rw [page5R]; rfl) rfl (pgA_one _) ?_
           generalize hW1 : World.setRow _ _ _ = w8
           have HZ8 : Hid (w8.heap[wr.heap.size]? = some (.cells (pgA p) 78 (0, 0))) := (by show _ = _; rw [<- hW1]; exact setRow_heap _ _ _ _ _ _ HZP.out)
           have HE9 : Hid (Below wO.heap.size wO w8) := (by rw [<- hW1]; exact hbq.out.trans ((below_setRow HE8.out (Nat.le_refl _) _).mono hbq.out.size))
           clear hW1)
        | (refine wpList_load_row rfl 78 (.tmp 14) rfl wr.heap.size rfl _ _ _ _ HZ8.out Tryz.underlying78 rfl (by rw [page5R]; rfl) ?_)
        | (refine wpList_neq_agg rfl 78 _ (.tmp 62) (.tmp 63) rfl (pgA p) (pgA ⟨0, 0, 0, 0, 0⟩) rfl rfl (by kernel_rfl) true (HEQ.out _) ?_)
        | fail)
       go_roundw
       case rel => exact ⟨i + 1, by have := HI.out; show _ <= _; omega, by go_num, HSN.out, HE9.out⟩
       case measure => simp [intOf]; have := HI.out; omega
      | false =>
       have HF : Hid (metaN n L = none) := by
        show _ = _
        rw [HM.out, HQF.out]
        simp only
        rw [HBAD.out rfl, if_neg (by simp)]
       go_wp2_with (first
        | (refine wpList_load_mid rfl 78 (.tmp 60) rfl q (qo + i * 5) rfl _ _ HCR.out Tryz.underlying78 rfl (by rw [page5R]; rfl) ?_)
        | (refine wpList_store_row rfl 78 (.tmp 14) (.tmp 61) rfl wr.heap.size (pgA p) rfl rfl 78 _ HZP.out (by rw [page5R]; rfl) rfl (pgA_one _) ?_
           generalize hW1 : World.setRow _ _ _ = w8
           have HZ8 : Hid (w8.heap[wr.heap.size]? = some (.cells (pgA p) 78 (0, 0))) := (by show _ = _; rw [<- hW1]; exact setRow_heap _ _ _ _ _ _ HZP.out)
           have HE9 : Hid (Below wO.heap.size wO w8) := (by rw [<- hW1]; exact hbq.out.trans ((below_setRow HE8.out (Nat.le_refl _) _).mono hbq.out.size))
           have HZ9 : Hid (w8.heap[w.heap.size + 1]? = some (.cells #[.int .u64 0, .int .u64 0, .int .u64 0, .int .u64 0, .int .u64 0, .int .u64 0, .int .u64 0, .int .u64 0, .int .u64 0, .int .u64 0, .int .u64 0, .int .u64 0, .int .u64 0, .int .u64 0, .int .u64 0, .int .u64 0, .int .u64 0, .slice none 0 0] 28 (0, 0))) := ((HE9.out.block _ (lt_of_block HRB2.out)).trans HRB2.out)
           clear hW1)
        | (refine wpList_load_row rfl 78 (.tmp 14) rfl wr.heap.size rfl _ _ _ _ HZ8.out Tryz.underlying78 rfl (by rw [page5R]; rfl) ?_)
        | (refine wpList_neq_agg rfl 78 _ (.tmp 62) (.tmp 63) rfl (pgA p) (pgA ⟨0, 0, 0, 0, 0⟩) rfl rfl (by kernel_rfl) false (HEQ.out _) ?_)
        | (refine wpList_store_row rfl 28 (.tmp 4) (.tmp 65) rfl (w.heap.size + 1) (mtA 0 zeroR (.slice none 0 0)) rfl rfl 28 _ HZ9.out (by rw [meta18R]; rfl) rfl (mtA_one _ _ _ _ _) ?_)
        | fail)
       refine bodyPost_ret (results_row_tmp rfl _ _ (w.heap.size + 1) _ (mtA 0 zeroR (.slice none 0 0)) (0, 0) _ rfl (setRow_heap _ _ _ _ _ _ HZ9.out) Tryz.underlying28 rfl (by rw [meta18R]; rfl)) rfl ?_
       refine ⟨?_, below_setRow (HBL.out.trans (HE9.out.mono HBL.out.size)) (by omega) _⟩
       unfold RMParse; rw [HF.out]
       exact ⟨0, zeroR, none, 0, 0, rfl, rfl⟩
     ·have hir : i = r := by have h : i <= r := hi; omega
      have hd2 : decide ((i : Int) < (r : Int)) = false := by simp; omega
      have dl2 : ¬ (i : Int) < (r : Int) := by omega
      have HAN : Hid ((Q.drop n).any (fun p => !freeP p) = false) := by
       have h := hal.out
       rw [hir, List.take_of_length_le (by rw [List.length_drop, HQL.out, HRR.out]; exact Nat.le_refl _)] at h
       exact h
      have hM8 := (hbq.out.block _ (lt_of_block HMB.out)).trans HMB.out
      have b17 := (cells_at hM8 17).trans (mtA_get17 _ _ _ h16)
      have g17 := free_at hM8 17
      have m0 := (cells_at ((hbq.out.block _ (lt_of_block HGB2.out)).trans HGB2.out) 0).trans (show _ = some (Value.int .i64 (n : Int)) from rfl)
      have nb := block_at hM8 17 (.slice (some ⟨q, 0, none⟩) n c)
      rw [mtA_set17 x R h16] at nb
      have HN1 := Lib.hid nb
      have HN3 : Hid ((wr.setCell ⟨mb, 17, none⟩ (.slice (some ⟨q, 0, none⟩) n c)).heap[w.heap.size]? = some (.cells #[.int .i64 (n : Int), .int .i64 t] 31 (0, 0))) := by show _ = _; rw [setCell_other _ _ _ _ (by have := HS5.out; omega)]; exact (hbq.out.block _ (lt_of_block HGB2.out)).trans HGB2.out
      have HN4 : Hid ((wr.setCell ⟨mb, 17, none⟩ (.slice (some ⟨q, 0, none⟩) n c)).heap[w.heap.size + 1]? = some (.cells #[.int .u64 0, .int .u64 0, .int .u64 0, .int .u64 0, .int .u64 0, .int .u64 0, .int .u64 0, .int .u64 0, .int .u64 0, .int .u64 0, .int .u64 0, .int .u64 0, .int .u64 0, .int .u64 0, .int .u64 0, .int .u64 0, .int .u64 0, .slice none 0 0] 28 (0, 0))) := by show _ = _; rw [setCell_other _ _ _ _ (by have := HS5.out; omega)]; exact (hbq.out.block _ (lt_of_block HRB2.out)).trans HRB2.out
      have HN5 : Hid (Below w.heap.size w (wr.setCell ⟨mb, 17, none⟩ (.slice (some ⟨q, 0, none⟩) n c))) := (HBL.out.trans (hbq.out.mono HBL.out.size)).setCell (by have := HS5.out; show w.heap.size <= mb; omega) _
      have HP9 : Hid (PgsAt (wr.setCell ⟨mb, 17, none⟩ (.slice (some ⟨q, 0, none⟩) n c)) (some ⟨q, 0, none⟩) (Q.take n)) := by
       show PgsAt _ _ _
       refine PgsAt.take ?_ n
       intro i2 p2 hp2
       obtain ⟨g', o', e9, hgl, hcell⟩ := HPQ.out i2 p2 hp2
       cases e9
       have hqn : q ≠ mb := by have := HQB.out; omega
       refine ⟨q, 0, rfl, ?_, fun j2 u hu => ?_⟩
       ·show q < _
        rw [World.size_setCell]
        exact Nat.lt_of_lt_of_le hgl hbq.out.size
       ·refine (World.cell?_of_block (setCell_other _ _ _ _ hqn)).trans ?_
        exact (hbq.out.cell (p := ⟨q, 0 + i2 * 5 + j2, none⟩) hgl).trans (hcell j2 u hu)
      have HTN : Hid ((Q.take n).length = n /\ ∀ p ∈ Q.take n, p.size < 4611686018427387904 /\ p.run < 4611686018427387904) := ⟨by rw [List.length_take, HQL.out]; have := HMN.out; omega, fun p hp => HSZQ.out p (List.mem_of_mem_take hp)⟩
      clear nb hM8 hir hi hil hal n0 a17 HMB HGB2 HRB2 HBL hbq
      go_wp2
      generalize wr.setCell ⟨mb, 17, none⟩ (.slice (some ⟨q, 0, none⟩) n c) = w9 at *
      refine regionQM w.heap.size (w.heap.size + 1) mb x n c t (some ⟨q, 0, none⟩) R (Q.take n) w9 h16 HXR.out.2.1 HXR.out.2.2 HGB.out HTN.out.1 (fun p hp => (HTN.out.2 p hp).1) (fun p hp => (HTN.out.2 p hp).2) HN3.out HN1.out HP9.out ?_
      intro vs w10 hv hkk
      have x0 : vs 0 = .agg (mtA x R (.slice (some ⟨q, 0, none⟩) n c)) := hv 0 (by omega)
      have x3 : vs 3 = .bool (mayM x (Q.take n)) := hv 3 (by omega)
      have HZA := Lib.hid ((hkk.block _ (lt_of_block HN4.out)).trans HN4.out)
      have HEA : Hid (Below w.heap.size w w10) := HN5.out.trans (hkk.mono HN5.out.size)
      have HPA := Lib.hid (HP9.out.up hkk (Nat.le_refl _))
      rw [x0, x3]
      clear hv x0 x3 hkk b17 g17 m0 hs1 hs2
      refine wpList_store_row rfl 28 (.tmp 4) (.tmp 73) rfl (w.heap.size + 1) (mtA x R (.slice (some ⟨q, 0, none⟩) n c)) rfl rfl 28 _ HZA.out (by rw [meta18R, mtA_size, h16]) (by rw [mtA_size, h16]; rfl) (mtA_one _ _ _ _ _) ?_
      have HPF : Hid (PgsAt (w10.setRow (w.heap.size + 1) (mtA x R (.slice (some ⟨q, 0, none⟩) n c))) (some ⟨q, 0, none⟩) (Q.take n)) := by
       intro i2 p2 hp2
       obtain ⟨g', o', e9, hgl, hcell⟩ := HPA.out i2 p2 hp2
       cases e9
       have hqn : q ≠ w.heap.size + 1 := by have := HQB.out; have := HS5.out; omega
       have hbk := setRow_other w10 (w.heap.size + 1) q (mtA x R (.slice (some ⟨q, 0, none⟩) n c)) hqn
       refine ⟨q, 0, rfl, ?_, fun j2 u hu => (World.cell?_of_block hbk).trans (hcell j2 u hu)⟩
       have h9 := Array.getElem?_eq_getElem hgl
       rw [<- hbk] at h9
       exact (Array.getElem?_eq_some_iff.1 h9).1
      go_wp2
      refine bodyPost_ret (results_row_tmp rfl _ _ (w.heap.size + 1) _ (mtA x R (.slice (some ⟨q, 0, none⟩) n c)) (0, 0) _ rfl (setRow_heap _ _ _ _ _ _ HZA.out) Tryz.underlying28 rfl (by rw [meta18R, mtA_size, h16])) rfl ?_
      refine ⟨?_, below_setRow HEA.out (by omega) _⟩
      unfold RMParse
      rw [HM.out, HQF.out]
      simp only
      rw [HAN.out, Bool.not_false, Bool.and_true]
      cases hmm : mayM x (Q.take n) with
      | true =>
       rw [if_pos rfl]
       exact ⟨_, c, rfl, HPF.out⟩
      | false =>
       rw [if_neg (by simp)]
       exact ⟨x, R, _, _, _, h16, rfl⟩
structure Ob where
 ser : Nat
 b : List Nat
def ObsAt (w : World) (a : Option Addr) (L : List Ob) : Prop := ∀ (i : Nat) (o : Ob), L[i]? = some o -> ∃ g of va vc, a = some ⟨g, of, none⟩ /\ g < w.heap.size /\ w.rangeAt g (of + i * 2) [.int .u64 (o.ser : Int), .slice va o.b.length vc] /\ SlAt w (.slice va o.b.length vc) o.b
theorem SlAt.below {w w' : World} {v : Value} {l : List Nat} (h : SlAt w v l) {B : Nat} (hb : Below B w w') (hB : w.heap.size <= B) : SlAt w' v l := by
 obtain ⟨a, cap, h1, h2, h3⟩ := h
 exact ⟨a, cap, h1, h2.up hb hB, h3⟩
theorem ObsAt.up {w w' : World} {a : Option Addr} {L : List Ob} (h : ObsAt w a L) {B : Nat} (hb : Below B w w') (hB : w.heap.size <= B) : ObsAt w' a L := by
 intro i o ho
 obtain ⟨g, of, va, vc, h1, h2, h3, h4⟩ := h i o ho
 refine ⟨g, of, va, vc, h1, Nat.lt_of_lt_of_le h2 hb.size, fun j u hu => ?_, h4.below hb hB⟩
 exact (hb.cell (p := ⟨g, of + i * 2 + j, none⟩) (by show g < B; omega)).trans (h3 j u hu)
/-- a row's cells are those of objects -/
def ObsV (w : World) (xs : List Value) (L : List Ob) : Prop := xs.length = L.length * 2 /\ ∀ (i : Nat) (o : Ob), L[i]? = some o -> ∃ va vc, xs[i * 2]? = some (.int .u64 (o.ser : Int)) /\ xs[i * 2 + 1]? = some (.slice va o.b.length vc) /\ SlAt w (.slice va o.b.length vc) o.b
theorem ObsV.up {w w' : World} {xs : List Value} {L : List Ob} (h : ObsV w xs L) {B : Nat} (hb : Below B w w') (hB : w.heap.size <= B) : ObsV w' xs L :=
 ⟨h.1, fun i o ho => by
  obtain ⟨va, vc, h1, h2, h3⟩ := h.2 i o ho
  exact ⟨va, vc, h1, h2, h3.below hb hB⟩⟩
theorem ObsV.nil (w : World) : ObsV w [] [] := ⟨rfl, fun i o h => by simp at h⟩
theorem ObsV.snoc {w : World} {xs : List Value} {L : List Ob} (h : ObsV w xs L) {o : Ob} {va : Option Addr} {vc : Nat} (hs : SlAt w (.slice va o.b.length vc) o.b) : ObsV w (xs ++ [.int .u64 (o.ser : Int), .slice va o.b.length vc]) (L ++ [o]) := by
 refine ⟨by simp [h.1]; omega, fun i p hp => ?_⟩
 by_cases hi : i < L.length
 ·rw [List.getElem?_append_left hi] at hp
  obtain ⟨va', vc', h1, h2, h3⟩ := h.2 i p hp
  exact ⟨va', vc', by rw [List.getElem?_append_left (by rw [h.1]; omega)]; exact h1, by rw [List.getElem?_append_left (by rw [h.1]; omega)]; exact h2, h3⟩
 ·have hlt := (List.getElem?_eq_some_iff.1 hp).1
  have hi2 : i = L.length := by simp at hlt; omega
  subst hi2
  rw [List.getElem?_append_right (Nat.le_refl _), Nat.sub_self] at hp
  have hp2 : o = p := by simpa using hp
  subst hp2
  refine ⟨va, vc, ?_, ?_, hs⟩
  ·rw [List.getElem?_append_right (by rw [h.1]; omega), h.1, Nat.sub_self]; rfl
  ·rw [List.getElem?_append_right (by rw [h.1]; omega), h.1, Nat.add_sub_cancel_left]; rfl
theorem obs_of_own {w : World} {base n : Nat} {a : Option Addr} {c : Nat} {xs : List Value} {L : List Ob} (hown : w.ownsRow base 85 2 (.slice a n c) n xs) (h : ObsV w xs L) : L.length = n /\ ObsAt w a L := by
 have hn : L.length = n := by have h1 := hown.1; rw [h.1] at h1; omega
 refine ⟨hn, fun i o ho => ?_⟩
 have hi : i < L.length := (List.getElem?_eq_some_iff.1 ho).1
 obtain ⟨va, vc, h1, h2, h3⟩ := h.2 i o ho
 rcases hown.2 with ⟨h5, h6⟩ | ⟨g, cap, cur, e3, e4, e5, e6⟩
 ·omega
 ·cases e3
  refine ⟨g, 0, va, vc, rfl, lt_of_block e5, fun j u hu => ?_, h3⟩
  have hj : j < 2 := by have := (List.getElem?_eq_some_iff.1 hu).1; simpa using this
  rw [Nat.zero_add, hown.cellAt (i * 2 + j) (by omega)]
  have hjj : j = 0 \/ j = 1 := by omega
  rcases hjj with rfl | rfl
  ·rw [Nat.add_zero, h1]; exact hu
  ·rw [h2]; exact hu
theorem obinfo : (Tryz.prog.info? 85).map (fun i => (i.zero, i.size, i.bytes)) = some (some (.agg #[.int .u64 0, .slice none 0 0]), 2, 32) := by kernel_rfl
theorem ob2 : (Tryz.prog.info? 85).map (·.size) = some 2 := by kernel_rfl
theorem ObsV.one {w : World} {xs : List Value} {L : List Ob} (h : ObsV w xs L) : ∀ v ∈ xs, v.oneCell' = true := by
 intro v hv
 obtain ⟨j, hj⟩ := List.getElem?_of_mem hv
 have hlt := (List.getElem?_eq_some_iff.1 hj).1
 rw [h.1] at hlt
 have hq : j / 2 < L.length := by omega
 obtain ⟨va, vc, h1, h2, _⟩ := h.2 (j / 2) _ (List.getElem?_eq_getElem hq)
 have hr : j % 2 = 0 \/ j % 2 = 1 := by omega
 rcases hr with hr | hr
 ·rw [show j / 2 * 2 = j by omega, hj] at h1; cases h1; rfl
 ·rw [show j / 2 * 2 + 1 = j by omega, hj] at h2; cases h2; rfl
theorem run_append_ob {w : World} (ty : TypeId) {base n : Nat} {v : Value} {xs : List Value} (hA : w.ownsRow base 85 2 v n xs) {g : Nat} {x y : Value} {t : TypeId} (hg : w.heap[g]? = some (.cells #[x, y] t (0, 0))) (h1 : x.oneCell' = true) (h2 : y.oneCell' = true) (h63 : n + 1 <= 1000000) (hbase : base <= w.heap.size) :
  ∃ v' w', (Builtin.append_ #[81, 81] ty #[v, .slice (some ⟨g, 0, none⟩) 1 1]).run Tryz.prog w = .ok v' w' /\ w'.ownsRow base 85 2 v' (n + 1) (xs ++ [x, y]) /\ w.grownBy w' v.ownBlock := by
 obtain ⟨i0, hi, h⟩ := Option.map_eq_some_iff.1 obinfo
 simp only [Prod.mk.injEq] at h
 obtain ⟨v', w', h4, h5, h6, _⟩ := run_append_own_at (P := Tryz.prog) w base 81 ty 85 i0 _ 2 32 Tryz.underlying81 hi h.1 h.2.1 h.2.2 rfl (by omega) v n xs hA ⟨g, 0, none⟩ 1 1 [x, y] rfl
  (fun j u hu => by
   rw [add_plain, Nat.zero_add, cells_at hg j, <- hu]
   simp) (fun u hu => by rcases List.mem_cons.1 hu with rfl | hu; exact h1; rcases List.mem_cons.1 hu with rfl | hu; exact h2; cases hu) (by unfold maxLen; omega) (by omega) hbase
 exact ⟨v', w', h4, h5, h6⟩
theorem wpList_append_ob {w : World} {ops : Array Oper} {rest : List Oper} {o : Oper} {A : Act} {Q : Exit -> Act -> World -> Prop} (hgd : o.guard = none) (s x : Operand)
  (ho : o.op = .call { callee := .builtin .append, args := #[s, x], argTypes := #[81, 81] }) {base n : Nat} {v : Value} {xs : List Value} (hs : A.eval s = v) (hA : w.ownsRow base 85 2 v n xs)
  {g : Nat} {x1 x2 : Value} {t : TypeId} (hx : A.eval x = .slice (some ⟨g, 0, none⟩) 1 1) (hg : w.heap[g]? = some (.cells #[x1, x2] t (0, 0))) (h1 : x1.oneCell' = true) (h2 : x2.oneCell' = true) (h63 : n + 1 <= 1000000) (hbase : base <= w.heap.size)
  (h : ∀ v' w', w'.ownsRow base 85 2 v' (n + 1) (xs ++ [x1, x2]) -> w.grownBy w' v.ownBlock -> wpList Tryz.prog ops Q rest (A.put o.dst v') w') : wpList Tryz.prog ops Q (o :: rest) A w :=
 wpList_plain hgd fun _ hK => by
  obtain ⟨v', w', k1, k2, k3⟩ := run_append_ob o.type hA hg h1 h2 h63 hbase
  unfold Oper.wp execOp
  simp only [ho, resolve, invoke, builtin, Sem.run_bind, Sem.run_pure, Result.andThen_ok, List.map_toArray, List.map_cons, List.map_nil, hs, hx, k1]
  exact hK _ _ (h v' w' k2 k3)
/-- an object's bytes in a page -/
def encO (o : Ob) (z : Nat) : List Nat := padB (if 0 < o.ser then lowB 2 o.b.length ++ lowB 6 o.ser ++ o.b else []) z
def encsO (L : List Ob) (z : Nat) : List Nat := L.flatMap fun o => encO o z
theorem encO_len (o : Ob) (z : Nat) : (encO o z).length = z := padB_len _ _
theorem encsO_len (z : Nat) : ∀ L : List Ob, (encsO L z).length = L.length * z
 | [] => by simp [encsO]
 | o :: L => by
  have h := encsO_len z L
  unfold encsO at h ⊢
  rw [List.flatMap_cons, List.length_append, encO_len, h, List.length_cons, Nat.add_mul]; omega
theorem encO_lt (o : Ob) (z : Nat) (h : ∀ x ∈ o.b, x < 256) : ∀ x ∈ encO o z, x < 256 := by
 unfold encO
 apply padB_lt
 split
 ·exact app_lt (app_lt (lowB_lt _ _) (lowB_lt _ _)) h
 ·intro x hx; cases hx
theorem encsO_lt (L : List Ob) (z : Nat) (h : ∀ o ∈ L, ∀ x ∈ o.b, x < 256) : ∀ x ∈ encsO L z, x < 256 := flat_lt L _ fun o ho => encO_lt o z (h o ho)
theorem rpage_c (a0 : Option Addr) (n cap : Nat) (L : List Ob) (hn : L.length = n) (hn16 : n <= 16) (c : Nat) (hser : ∀ o ∈ L, o.ser < 18446744073709551616) (hlen : ∀ o ∈ L, o.b.length <= 1000) (w : World) (hO : ObsAt w a0 L) :
  Calls Tryz.prog 59 #[.slice a0 n cap, .int .i64 (c : Int)] w fun e w' => ∃ v, e = .returned v /\ w'.ownsRow w.heap.size 5 1 v 256 (bA (padB (encsO L (sz c + 8)) 256)).toList /\ Below w.heap.size w w' := by
 have HO := Lib.hid hO
 have HN := Lib.hid hn
 have HN16 := Lib.hid hn16
 have HSER := Lib.hid hser
 have HLEN := Lib.hid hlen
 have HLT : Hid (∀ o ∈ L, ∀ x ∈ o.b, x < 256) := fun o ho => by
  obtain ⟨i, hi⟩ := List.getElem?_of_mem ho
  obtain ⟨_, _, _, _, _, _, _, h9⟩ := hO i o hi
  obtain ⟨_, _, _, h8, _⟩ := h9
  exact h8.1
 obtain ⟨s, hs⟩ : ∃ s, s = sz c := ⟨_, rfl⟩
 have hs120 : s <= 120 := by
  rw [hs]
  by_cases h : c < 8
  ·exact (sz_le_all c h).2
  ·rw [sz_big c (by omega)]; omega
 have HSZ := Lib.hid (fun w => rsize_c c w)
 rw [<- hs] at HSZ ⊢
 obtain ⟨z, hz⟩ : ∃ z, z = s + 8 := ⟨_, rfl⟩
 have iz : (s : Int) + 8 = (z : Int) := by omega
 have wz : IntKind.i64.wrap (z : Int) = (z : Int) := IntWalk.i64_in _ (by omega)
 rw [<- hz]
 have HZ : Hid (z <= 128) := by show _ <= _; omega
 have HP2 := Lib.hid (fun q hq w => rput_c 2 q (by omega) hq w)
 have HP6 := Lib.hid (fun q hq w => rput_c 6 q (by omega) hq w)
 clear hO hn hser hlen hs hs120 hz hn16
 go_enter Tryz.func59, Tryz.ntmps59
 go_wp2
 go_loopw [5, 7, 8, 11] (fun vp v7 v8 vi wr => ∃ j : Nat, Hid (j <= n) /\ vi = .int .i64 (j : Int) /\ ∃ a m c', vp = .slice a m c' /\ Hid (m = j * z) /\ Hid (wr.ownsRow w.heap.size 5 1 (.slice a m c') m (bA (encsO (L.take j) z)).toList) /\ Hid (Below w.heap.size w wr)) (fun _ _ _ vi _ => n - (intOf vi).toNat)
 case atStart => exact ⟨0, Nat.zero_le _, rfl, none, 0, 0, rfl, by simp [Hid], World.ownsRow_nil _ _ _ _, Below.refl _ _⟩
 case round =>
  obtain ⟨j, hj, rfl, a, m, c', rfl, hm, hown, hbel⟩ := hrel
  by_cases hlt : j < n
  ·have hd : decide ((j : Int) < (n : Int)) = true := by simp; omega
   have dl : (j : Int) < (n : Int) := by omega
   have d0 : ¬ (j : Int) < 0 := by omega
   have ek : IntKind.i64.wrap ((j : Int) + 1) = (j : Int) + 1 := by have := HN16.out; exact IntWalk.i64_in _ (by omega)
   have hjL : j < L.length := by rw [HN.out]; exact hlt
   obtain ⟨ob, hob⟩ : ∃ ob, ob = L[j] := ⟨_, rfl⟩
   have hmem : ob ∈ L := by rw [hob]; exact List.getElem_mem _
   have hget : L[j]? = some ob := by rw [hob]; exact List.getElem?_eq_getElem hjL
   obtain ⟨g, o, va, vc, rfl, hgl, hcell, hsl⟩ := HO.out j ob hget
   have HCR : Hid (wr.rangeAt g (o + j * 2) [.int .u64 (ob.ser : Int), .slice va ob.b.length vc]) := fun k u hu => (hbel.out.cell (p := ⟨g, o + j * 2 + k, none⟩) hgl).trans (hcell k u hu)
   obtain ⟨bl, hbl⟩ : ∃ bl, bl = ob.b.length := ⟨_, rfl⟩
   have hsl2 : SlAt wr (.slice va bl vc) ob.b := by rw [hbl]; exact hsl.below hbel.out (Nat.le_refl _)
   have hbl1 : bl <= 1000 := by rw [hbl]; exact HLEN.out ob hmem
   rw [<- hbl] at HCR
   have HSL := Lib.hid hsl2
   have HBL : Hid (ob.b.length = bl /\ bl <= 1000) := ⟨hbl.symm, hbl1⟩
   have wbl : IntKind.u64.wrap (bl : Int) = (bl : Int) := by rw [IntKind.wrap_u64]; omega
   have hser := HSER.out ob hmem
   have HLTO := Lib.hid (HLT.out ob hmem)
   have HEN : Hid (encsO (L.take (j + 1)) z = encsO (L.take j) z ++ encO ob z) := by
    show _ = _
    unfold encsO
    rw [List.take_add_one, hget, List.flatMap_append]; simp
   have HJ := Lib.hid hlt
   obtain ⟨sr, hsr⟩ : ∃ sr, sr = ob.ser := ⟨_, rfl⟩
   have HSR := Lib.hid hsr
   rw [<- hsr] at HCR hser
   have HSRL := Lib.hid hser
   have HZ1 : Hid ((wr.alloc (.cells #[.int .u64 (sr : Int), .slice va bl vc] 85)).heap[wr.heap.size]? = some (.cells #[.int .u64 (sr : Int), .slice va bl vc] 85 (0, 0))) := heap_new' _ _
   have HE2 : Hid (Below wr.heap.size wr (wr.alloc (.cells #[.int .u64 (sr : Int), .slice va bl vc] 85))) := below_box wr _
   clear hob hmem hget hgl hcell hsl hbl hsl2 hbl1 hjL hj hsr hser hlt
   by_cases h0 : 0 < sr
   ·have g1 : (sr : Int) > 0 := by omega
    have g2 : decide ((sr : Int) > 0) = true := by simp; omega
    have g3 : 0 < (sr : Int) := by omega
    have HP2A := Lib.hid (HP2.out bl (by have := HBL.out; omega))
    have HP6A := Lib.hid (HP6.out sr HSRL.out)
    have HES : Hid (encO ob z = padB (lowB 2 bl ++ lowB 6 sr ++ ob.b) z) := by show _ = _; unfold encO; rw [<- HSR.out, if_pos h0, HBL.out.1]
    clear h0
    go_wp2_with (first
     | (refine wpList_load_mid rfl 85 (.tmp 13) rfl g (o + j * 2) rfl _ _ HCR.out Tryz.underlying85 rfl (by rw [ob2]; rfl) ?_)
     | fail)
    generalize (wr.alloc (.cells #[.int .u64 (sr : Int), .slice va bl vc] 85)) = w1 at *
    refine (HP2A.out w1).mono ?_
    rintro e w2 ⟨v2, rfl, ho2, hb2⟩
    obtain ⟨a2, k2, hv2, hB2, _, _, _, hn2, _⟩ := own_bytes (lowB_lt 2 bl) ho2
    subst hv2
    have HB2 := Lib.hid hB2
    have HN2 := Lib.hid hn2
    have HZ2 := Lib.hid ((hb2.block _ (lt_of_block HZ1.out)).trans HZ1.out)
    have HE3 : Hid (Below wr.heap.size wr w2) := HE2.out.trans (hb2.mono HE2.out.size)
    have d0' := (cells_at HZ2.out 0).trans (show _ = some (Value.int .u64 (sr : Int)) from rfl)
    clear ho2 hb2 hB2 hn2
    go_wp2_with (first
     | (refine wpList_append_bytes (v := .slice none 0 0) (base := wr.heap.size + 1) (n := 0) (m := 2) (xs := []) (l := lowB 2 bl) rfl (.tmp 18) (.tmp 23) rfl rfl (World.ownsRow_nil _ _ _ _) rfl (lowB_len _ _) HB2.out HN2.out (by omega) (lt_of_block HZ2.out) ?_
        intro v3 w3 ho3 hg3
        rw [List.nil_append, Nat.zero_add] at ho3
        have HO3 := Lib.hid ho3
        have HZ3 := Lib.hid ((hg3.block _ (lt_of_block HZ2.out) (fun e => by cases e)).trans HZ2.out)
        have HE4 : Hid (Below wr.heap.size wr w3) := HE3.out.grown hg3 HE3.out.size (fun q h => by cases h)
        have e0' := (cells_at HZ3.out 0).trans (show _ = some (Value.int .u64 (sr : Int)) from rfl)
        obtain ⟨a3, k3, hv3⟩ := own_slice ho3
        subst hv3
        clear ho3 hg3 d0')
     | fail)
    refine (HP6A.out w3).mono ?_
    rintro e w4 ⟨v4, rfl, ho4, hb4⟩
    obtain ⟨a4, k4, hv4, hB4, _, _, _, hn4, _⟩ := own_bytes (lowB_lt 6 sr) ho4
    subst hv4
    have HB4 := Lib.hid hB4
    have HN4 := Lib.hid hn4
    have HZ4 := Lib.hid ((hb4.block _ (lt_of_block HZ3.out)).trans HZ3.out)
    have HO4 := Lib.hid (own_up HO3.out hb4)
    have HE5 : Hid (Below wr.heap.size wr w4) := HE4.out.trans (hb4.mono HE4.out.size)
    have f1' := (cells_at HZ4.out 1).trans (show _ = some (Value.slice va bl vc) from rfl)
    clear ho4 hb4 hB4 hn4 e0'
    go_wp2_with (first
     | (refine wpList_append_bytes (v := .slice a3 2 k3) (base := wr.heap.size + 1) (n := 2) (m := 6) (l := lowB 6 sr) rfl (.tmp 25) (.tmp 28) rfl rfl HO4.out rfl (lowB_len _ _) HB4.out HN4.out (by omega) (lt_of_block HZ4.out) ?_
        intro v5 w5 ho5 hg5
        rw [bA_app] at ho5
        have HO5 := Lib.hid ho5
        have hbo : ∀ q, (Value.slice a3 2 k3).ownBlock = some q -> wr.heap.size + 1 <= q := fun q h => own_base HO4.out q h
        have HZ5 := Lib.hid ((hg5.block _ (lt_of_block HZ4.out) (fun e => by have := hbo _ e.symm; omega)).trans HZ4.out)
        have HE6 : Hid (Below wr.heap.size wr w5) := HE5.out.grown hg5 HE5.out.size (fun q h => by have := hbo q h; omega)
        have g1' := (cells_at HZ5.out 1).trans (show _ = some (Value.slice va bl vc) from rfl)
        obtain ⟨a5, k5, hv5⟩ := own_slice ho5
        subst hv5
        have HSL5 := Lib.hid (HSL.out.below HE6.out (Nat.le_refl _))
        clear ho5 hg5 f1' hbo)
     | (refine wpList_append_bytes (v := .slice a5 8 k5) (base := wr.heap.size + 1) (n := 8) (m := bl) (l := ob.b) rfl (.tmp 30) (.tmp 32) rfl rfl HO5.out rfl HBL.out.1 (by obtain ⟨x1, x2, h1, h2, _⟩ := HSL5.out; cases h1; exact h2) (by obtain ⟨x1, x2, h1, h2, h3, _⟩ := HSL5.out; cases h1; exact h3) (by have := HBL.out; omega) (lt_of_block HZ5.out) ?_
        intro v6 w6 ho6 hg6
        rw [bA_app] at ho6
        have HO6 := Lib.hid ho6
        have hbo : ∀ q, (Value.slice a5 8 k5).ownBlock = some q -> wr.heap.size + 1 <= q := fun q h => own_base HO5.out q h
        have HE7 : Hid (Below wr.heap.size wr w6) := HE6.out.grown hg6 HE6.out.size (fun q h => by have := hbo q h; omega)
        obtain ⟨a6, k6, hv6⟩ := own_slice ho6
        subst hv6
        clear ho6 hg6 g1' hbo)
     | fail)
    have hEL : (lowB 2 bl ++ lowB 6 sr ++ ob.b).length = 8 + bl := by rw [List.length_append, List.length_append, lowB_len, lowB_len, HBL.out.1]
    obtain ⟨a7, k7, hv7, hB7, _, _, _, hn7, _⟩ := own_bytes (app_lt (app_lt (lowB_lt 2 bl) (lowB_lt 6 sr)) HLTO.out) HO6.out
    cases hv7
    have HPD := Lib.hid (rpad_c a6 (8 + bl) k6 _ hEL (by have := HBL.out; omega) z (by have := HZ.out; omega) w6 hB7)
    rw [<- HES.out] at HPD
    clear hB7 hn7 hEL HO6
    refine (HSZ.out w6).mono ?_
    rintro e w7 ⟨rfl, rfl⟩
    go_wp2_with fail
    refine HPD.out.mono ?_
    rintro e w8 ⟨v8, rfl, ho8, hb8⟩
    obtain ⟨a8, k8, hv8, hB8, _, _, _, hn8, _⟩ := own_bytes (encO_lt ob z HLTO.out) ho8
    subst hv8
    have HB8 := Lib.hid hB8
    have HN8 := Lib.hid hn8
    have HE8 : Hid (Below wr.heap.size wr w8) := HE7.out.trans (hb8.mono HE7.out.size)
    have HO8 := Lib.hid (own_up hown.out HE8.out)
    have HF8 : Hid (Below w.heap.size w w8) := hbel.out.trans (HE8.out.mono hbel.out.size)
    have HMZ : Hid (m + z <= 1000000 /\ m + z = (j + 1) * z) := by
     have h1 := hm.out
     have h2 := HZ.out
     have h3 := HJ.out
     have h4 := HN16.out
     have h5 : j * z <= 16 * 128 := Nat.mul_le_mul (by omega) h2
     exact ⟨by omega, by rw [Nat.add_mul]; omega⟩
    clear ho8 hb8 hB8 hn8 hown hbel
    go_wp2_with (first
     | (refine wpList_append_bytes (v := .slice a m c') (base := w.heap.size) (n := m) (m := z) (l := encO ob z) rfl (.tmp 34) (.tmp 39) rfl rfl HO8.out rfl (encO_len _ _) HB8.out HN8.out HMZ.out.1 HF8.out.size ?_
        intro v9 w9 ho9 hg9
        rw [bA_app, <- HEN.out] at ho9
        have HO9 := Lib.hid ho9
        have HF9 : Hid (Below w.heap.size w w9) := HF8.out.grown hg9 HF8.out.size (fun q h => (HO8.out.lt q h).1)
        obtain ⟨a9, k9, hv9⟩ := own_slice ho9
        subst hv9
        clear ho9 hg9)
     | fail)
    go_roundw
    case rel => exact ⟨j + 1, by have := HJ.out; show _ <= _; omega, by go_num, a9, m + z, k9, rfl, HMZ.out.2, HO9.out, HF9.out⟩
    case measure => simp [intOf]; have := HJ.out; omega
   ·have hsr0 : sr = 0 := by omega
    have g1 : ¬ (sr : Int) > 0 := by omega
    have HES : Hid (encO ob z = padB [] z) := by show _ = _; unfold encO; rw [<- HSR.out, if_neg h0]
    have g2 : decide ((sr : Int) > 0) = false := by simp; omega
    have g3 : ¬ 0 < (sr : Int) := by omega
    clear h0 hsr0
    go_wp2_with (first
     | (refine wpList_load_mid rfl 85 (.tmp 13) rfl g (o + j * 2) rfl _ _ HCR.out Tryz.underlying85 rfl (by rw [ob2]; rfl) ?_)
     | fail)
    generalize (wr.alloc (.cells #[.int .u64 (sr : Int), .slice va bl vc] 85)) = w1 at *
    have HPD := Lib.hid (rpad_c none 0 0 [] rfl (by omega) z (by have := HZ.out; omega) w1 (bytes_none w1))
    rw [<- HES.out] at HPD
    refine (HSZ.out w1).mono ?_
    rintro e w7 ⟨rfl, rfl⟩
    go_wp2_with fail
    refine HPD.out.mono ?_
    rintro e w8 ⟨v8, rfl, ho8, hb8⟩
    obtain ⟨a8, k8, hv8, hB8, _, _, _, hn8, _⟩ := own_bytes (encO_lt ob z HLTO.out) ho8
    subst hv8
    have HB8 := Lib.hid hB8
    have HN8 := Lib.hid hn8
    have HE8 : Hid (Below wr.heap.size wr w8) := HE2.out.trans (hb8.mono HE2.out.size)
    have HO8 := Lib.hid (own_up hown.out HE8.out)
    have HF8 : Hid (Below w.heap.size w w8) := hbel.out.trans (HE8.out.mono hbel.out.size)
    have HMZ : Hid (m + z <= 1000000 /\ m + z = (j + 1) * z) := by
     have h1 := hm.out
     have h2 := HZ.out
     have h3 := HJ.out
     have h4 := HN16.out
     have h5 : j * z <= 16 * 128 := Nat.mul_le_mul (by omega) h2
     exact ⟨by omega, by rw [Nat.add_mul]; omega⟩
    clear ho8 hb8 hB8 hn8 hown hbel
    go_wp2_with (first
     | (refine wpList_append_bytes (v := .slice a m c') (base := w.heap.size) (n := m) (m := z) (l := encO ob z) rfl (.tmp 34) (.tmp 39) rfl rfl HO8.out rfl (encO_len _ _) HB8.out HN8.out HMZ.out.1 HF8.out.size ?_
        intro v9 w9 ho9 hg9
        rw [bA_app, <- HEN.out] at ho9
        have HO9 := Lib.hid ho9
        have HF9 : Hid (Below w.heap.size w w9) := HF8.out.grown hg9 HF8.out.size (fun q h => (HO8.out.lt q h).1)
        obtain ⟨a9, k9, hv9⟩ := own_slice ho9
        subst hv9
        clear ho9 hg9)
     | fail)
    go_roundw
    case rel => exact ⟨j + 1, by have := HJ.out; show _ <= _; omega, by go_num, a9, m + z, k9, rfl, HMZ.out.2, HO9.out, HF9.out⟩
    case measure => simp [intOf]; have := HJ.out; omega
  ·have hjn : j = n := by have h : j <= n := hj; omega
   have hd : decide ((j : Int) < (n : Int)) = false := by simp; omega
   have dl : ¬ (j : Int) < (n : Int) := by omega
   have hown5 := hown.out
   rw [show L.take j = L from List.take_of_length_le (by rw [HN.out]; omega)] at hown5
   obtain ⟨a', c2, hv', hB', hl', _⟩ := own_bytes (encsO_lt L z HLT.out) hown5
   cases hv'
   have HPD := Lib.hid (rpad_c a m c' _ hl' (by
    have h1 := hm.out
    have h5 : j * z <= 16 * 128 := Nat.mul_le_mul (by have := HN16.out; omega) HZ.out
    omega) 256 (by omega) wr hB')
   clear hm hown hown5 hjn hj hlt hB' hl'
   go_wp2_with fail
   refine HPD.out.mono ?_
   rintro e w8 ⟨v8, rfl, ho8, hb8⟩
   have HO8 : Hid (w8.ownsRow w.heap.size 5 1 v8 256 (bA (padB (encsO L z) 256)).toList) := own_mono ho8 hbel.out.size
   have HF8 : Hid (Below w.heap.size w w8) := hbel.out.trans (hb8.mono hbel.out.size)
   clear ho8 hb8 hbel
   go_wp2
   go_ret
   exact ⟨_, rfl, HO8.out, HF8.out⟩
end Go.Proofs.YtpbmjfjnmcpieaaGreat
