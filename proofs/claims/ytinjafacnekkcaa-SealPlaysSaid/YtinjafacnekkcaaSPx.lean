/- Texts SpG, put together by pack.py. -/
import Derived.Test.YtinjafacnekkcaaSPw
set_option linter.unusedVariables false
set_option linter.unusedSimpArgs false
namespace Go.Proofs.Ytinjafacnekkcaa
open Go Go.RowKit GfM
def opsG27 : {o : Array Oper // some o = (Try.f6.body.bind (Fre.findR 27))} := ⟨_, rfl⟩
set_option maxRecDepth 100000 in
set_option maxHeartbeats 4000000 in
theorem regionG27 {u2 u3 u4 u6 u10 u11 u12 u13 u14 u15 u16 u17 u18 u19 u20 u21 u22 u23 u24 u25 u26 u27 u28 u29 u30 u31 u32 u33 u34 u35 u36 u37 u38 u39 u40 u41 u42 u43 u44 u45 u46 u47 u48 u49 u50 u51 u52 u53 u54 u55 u56 u57 u58 u59 u60 u61 u62 u63 u64 u65 u66 u67 u68 u69 u70 u71 u72 u73 u74 u75 u76 u77 u78 u79 u80 u81 u82 u83 u84 u85 u86 u87 u88 u89 u90 u91 u92 u93 u94 u95 u96 u97 u98 u99 u100 u101 u102 u103 u104 u105 u106 u107 u108 u109 u110 u111 u112 u113 u114 u115 u116 u117 u118 u119 u120 u121 u122 u123 u124 u125 u126 u127 u128 u129 u130 u131 u132 u133 u134 u135 u136 u137 u138 : Value} {s r bp : Nat} {a7 a8 : Option Addr} {c7 c8 : Nat} {key : List Nat} {L : MapM} {T : Option (Nat × Nat)} (hkl : key.length = 16 ∨ key.length = 32) (e bk : Nat) (he : e < 18446744073709551616) (hb : bk < 65536) (p : List Nat) (hp : p.length = 256) (hxl : ∀ x ∈ xorL p (strL key e bk 256), x < 256) (w0 : World) (hL : L.length ≤ 1000)
    {kd : Int} {v3 : Value} (hbp : w0.heap[bp]? = some (.cells #[.int .i64 kd, .int .u64 (e : Int), .int .i64 (bk : Int), v3] 37 (0, 0)))
    (h7 : BytesAt w0 a7 c7 p) (h8 : BytesAt w0 a8 c8 (xorL p (strL key e bk 256))) (hR : RSlr w0 r key L T) {QQ : Exit → Act → World → Prop}
    (hQ : ∀ s5 c5 w', RSlr w' r key (insL L (e, bk) p) (rT L (e, bk) p T) → BtR r w0 w' → QQ .normal ⟨#[.pointer (some ⟨s, 0, none⟩), .pointer (some ⟨r, 0, none⟩), u2, u3, u4, .pointer (some ⟨bp, 0, none⟩), .bool true, .slice a7 256 c7, .slice a8 256 c8, .int .i64 0, u10, u11, u12, u13, u14, u15, u16, u17, u18, u19, u20, u21, u22, u23, u24, u25, u26, u27, u28, u29, u30, u31, u32, u33, u34, u35, u36, u37, u38, u39, u40, u41, u42, u43, u44, u45, u46, u47, u48, u49, u50, u51, u52, u53, u54, u55, u56, u57, u58, u59, u60, u61, u62, u63, u64, u65, u66, u67, u68, u69, u70, u71, u72, u73, u74, u75, u76, u77, u78, u79, u80, u81, u82, u83, u84, u85, u86, u87, u88, u89, u90, u91, u92, u93, u94, u95, u96, u97, u98, u99, u100, u101, u102, u103, u104, u105, u106, u107, u108, u109, u110, u111, u112, u113, u114, u115, u116, u117, u118, u119, u120, u121, u122, u123, .int .i64 0, .bool true, .bool true, .slice a8 256 c8, strV (xorL p (strL key e bk 256)), .pointer (some ⟨r, 0, none⟩), .pointer (some ⟨bp, 1, none⟩), .int .u64 (e : Int), .pointer (some ⟨bp, 2, none⟩), .int .i64 (bk : Int), .slice a7 256 c7, .slice s5 256 c5, strV (xorL p (strL key e bk 256)), .bool true, .bool true], []⟩ w') : (Code.region 27 opsG27.1 true).wp Try.prog QQ ⟨#[.pointer (some ⟨s, 0, none⟩), .pointer (some ⟨r, 0, none⟩), u2, u3, u4, .pointer (some ⟨bp, 0, none⟩), u6, .slice a7 256 c7, .slice a8 256 c8, .int .i64 0, u10, u11, u12, u13, u14, u15, u16, u17, u18, u19, u20, u21, u22, u23, u24, u25, u26, u27, u28, u29, u30, u31, u32, u33, u34, u35, u36, u37, u38, u39, u40, u41, u42, u43, u44, u45, u46, u47, u48, u49, u50, u51, u52, u53, u54, u55, u56, u57, u58, u59, u60, u61, u62, u63, u64, u65, u66, u67, u68, u69, u70, u71, u72, u73, u74, u75, u76, u77, u78, u79, u80, u81, u82, u83, u84, u85, u86, u87, u88, u89, u90, u91, u92, u93, u94, u95, u96, u97, u98, u99, u100, u101, u102, u103, u104, u105, u106, u107, u108, u109, u110, u111, u112, u113, u114, u115, u116, u117, u118, u119, u120, u121, u122, u123, u124, u125, u126, u127, u128, u129, u130, u131, u132, u133, u134, u135, u136, u137, u138], []⟩ w0 := by
  have hxn : (xorL p (strL key e bk 256)).length = 256 := by rw [xorL_len]; exact hp
  have n7 := bytes_ner hR hp h7
  have n8 := bytes_ner hR hxn h8
  have hbr : bp ≠ r := by
    obtain ⟨_, _, _, _, _, _, _, hR⟩ := hR
    rintro rfl; have := hR.blk; rw [hbp] at this; cases this
  obtain ⟨X, hX⟩ : ∃ X, X = xorL p (strL key e bk 256) := ⟨_, rfl⟩
  have hbl := lt_of_block hbp
  have hrl : r < w0.heap.size := by obtain ⟨_, _, _, _, _, _, _, hR⟩ := hR; exact lt_of_block hR.blk
  have C1 : Hid (∀ w', BtR r w0 w' → w'.cell? ⟨bp, 1, none⟩ = some (.int .u64 (e : Int))) := fun w' h => (cells_at ((h.2 bp hbl hbr).trans hbp) 1).trans rfl
  have C2 : Hid (∀ w', BtR r w0 w' → w'.cell? ⟨bp, 2, none⟩ = some (.int .i64 (bk : Int))) := fun w' h => (cells_at ((h.2 bp hbl hbr).trans hbp) 2).trans rfl
  have HC := Lib.hid (fun (w : World) (hR : RSlr w r key L T) (hB : BytesAt w a7 c7 p) => rseal_c hkl e bk he hb a7 c7 p hp w hL hR hB (bytes_ner hR hp hB))
  rw [← hX] at hxl hxn h8 HC hQ
  have H7 : Hid (∀ w', BtR r w0 w' → BytesAt w' a7 c7 p) := fun w' h => bytes_btr h7 h n7
  have H8 : Hid (∀ w', BtR r w0 w' → BytesAt w' a8 c8 X) := fun w' h => bytes_btr h8 h n8
  have HR := Lib.hid hR
  have HXL := Lib.hid hxl
  have HXN := Lib.hid hxn
  have HQ := Lib.hid hQ
  have HRL := Lib.hid hrl
  clear hX hxl hxn h7 h8 hR hQ hbp n7 n8 hbr hbl hrl hp he hb hkl hL
  refine Code.wp_mono (Q := OnlyG fun a w => QQ .normal a w) (fun x a w h => by cases x <;> first | exact h | exact h.elim) ?_
  refine wp_region_held_drew (S := fun w' => BtR r w0 w') (by kernel_rfl) ⟨(Below.refl _ _).drew, fun _ _ _ => rfl⟩ ?_
  intro hS
  have HRD : Hid (RSlr w0.drew r key L T) := by
    obtain ⟨_, _, _, _, _, _, _, hR⟩ := HR.out
    exact ⟨_, _, _, _, _, _, _, hR.up (Below.refl _ _).drew⟩
  generalize w0.drew = WD at hS HRD ⊢
  simp only [opsG27]
  change wpAnyH _ _ _ _ _ 16 #[false, false, false, false, false, false, false, false, false, false, false, false, false, false, false, false] _ _
  refine wpAnyH_take (i := 0) (v := ?_) rfl (by kernel_rfl) (by kernel_rfl) (by kernel_rfl) (fun _ _ _ h => h) (Or.inl ⟨by rfl, ?hy⟩) hS ?_
  case hy => intro w' hSw; go_simp; try with_reducible rfl
  simp only [List.getElem_toArray, List.getElem_cons_succ, List.getElem_cons_zero, Act.put, List.setIfInBounds_toArray, List.set_cons_zero, List.set_cons_succ]
  change wpAnyH _ _ _ _ _ 15 #[true, false, false, false, false, false, false, false, false, false, false, false, false, false, false, false] _ _
  refine wpAnyH_take (i := 1) (v := ?_) rfl (by kernel_rfl) (by kernel_rfl) (by kernel_rfl) (fun _ _ _ h => h) (Or.inl ⟨by rfl, ?hy⟩) hS ?_
  case hy => intro w' hSw; go_simp; try with_reducible rfl
  simp only [List.getElem_toArray, List.getElem_cons_succ, List.getElem_cons_zero, Act.put, List.setIfInBounds_toArray, List.set_cons_zero, List.set_cons_succ]
  change wpAnyH _ _ _ _ _ 14 #[true, true, false, false, false, false, false, false, false, false, false, false, false, false, false, false] _ _
  refine wpAnyH_take (i := 2) (v := ?_) rfl (by kernel_rfl) (by kernel_rfl) (by kernel_rfl) (fun _ _ _ h => h) (Or.inl ⟨by rfl, ?hy⟩) hS ?_
  case hy => intro w' hSw; go_simp; try with_reducible rfl
  simp only [List.getElem_toArray, List.getElem_cons_succ, List.getElem_cons_zero, Act.put, List.setIfInBounds_toArray, List.set_cons_zero, List.set_cons_succ]
  change wpAnyH _ _ _ _ _ 13 #[true, true, true, false, false, false, false, false, false, false, false, false, false, false, false, false] _ _
  refine wpAnyH_take (i := 3) (v := ?_) rfl (by kernel_rfl) (by kernel_rfl) (by kernel_rfl) (fun _ _ _ h => h) (Or.inl ⟨by rfl, ?hy⟩) hS ?_
  case hy => intro w' hSw; go_simp; try with_reducible rfl
  simp only [List.getElem_toArray, List.getElem_cons_succ, List.getElem_cons_zero, Act.put, List.setIfInBounds_toArray, List.set_cons_zero, List.set_cons_succ]
  change wpAnyH _ _ _ _ _ 12 #[true, true, true, true, false, false, false, false, false, false, false, false, false, false, false, false] _ _
  refine wpAnyH_take (i := 4) rfl (by kernel_rfl) (by kernel_rfl) (by kernel_rfl) (fun _ _ _ h => h) (Or.inl ⟨by rfl, fun w' hSw => run_conv_op HXN.out (H8.out w' hSw) _ (.tmp 127) _ rfl rfl⟩) hS ?_
  simp only [List.getElem_toArray, List.getElem_cons_succ, List.getElem_cons_zero, Act.put, List.setIfInBounds_toArray, List.set_cons_zero, List.set_cons_succ]
  change wpAnyH _ _ _ _ _ 11 #[true, true, true, true, true, false, false, false, false, false, false, false, false, false, false, false] _ _
  refine wpAnyH_take (i := 5) (v := ?_) rfl (by kernel_rfl) (by kernel_rfl) (by kernel_rfl) (fun _ _ _ h => h) (Or.inl ⟨by rfl, ?hy⟩) hS ?_
  case hy => intro w' hSw; go_simp; try with_reducible rfl
  simp only [List.getElem_toArray, List.getElem_cons_succ, List.getElem_cons_zero, Act.put, List.setIfInBounds_toArray, List.set_cons_zero, List.set_cons_succ]
  change wpAnyH _ _ _ _ _ 10 #[true, true, true, true, true, true, false, false, false, false, false, false, false, false, false, false] _ _
  refine wpAnyH_take (i := 6) (v := ?_) rfl (by kernel_rfl) (by kernel_rfl) (by kernel_rfl) (fun _ _ _ h => h) (Or.inl ⟨by rfl, ?hy⟩) hS ?_
  case hy => intro w' hSw; go_simp; try with_reducible rfl
  simp only [List.getElem_toArray, List.getElem_cons_succ, List.getElem_cons_zero, Act.put, List.setIfInBounds_toArray, List.set_cons_zero, List.set_cons_succ]
  change wpAnyH _ _ _ _ _ 9 #[true, true, true, true, true, true, true, false, false, false, false, false, false, false, false, false] _ _
  refine wpAnyH_take (i := 7) (v := ?_) rfl (by kernel_rfl) (by kernel_rfl) (by kernel_rfl) (fun _ _ _ h => h) (Or.inl ⟨by rfl, ?hy⟩) hS ?_
  case hy => intro w' hSw; have c1 := C1.out w' hSw; go_simp; try with_reducible rfl
  simp only [List.getElem_toArray, List.getElem_cons_succ, List.getElem_cons_zero, Act.put, List.setIfInBounds_toArray, List.set_cons_zero, List.set_cons_succ]
  change wpAnyH _ _ _ _ _ 8 #[true, true, true, true, true, true, true, true, false, false, false, false, false, false, false, false] _ _
  refine wpAnyH_take (i := 8) (v := ?_) rfl (by kernel_rfl) (by kernel_rfl) (by kernel_rfl) (fun _ _ _ h => h) (Or.inl ⟨by rfl, ?hy⟩) hS ?_
  case hy => intro w' hSw; go_simp; try with_reducible rfl
  simp only [List.getElem_toArray, List.getElem_cons_succ, List.getElem_cons_zero, Act.put, List.setIfInBounds_toArray, List.set_cons_zero, List.set_cons_succ]
  change wpAnyH _ _ _ _ _ 7 #[true, true, true, true, true, true, true, true, true, false, false, false, false, false, false, false] _ _
  refine wpAnyH_take (i := 9) (v := ?_) rfl (by kernel_rfl) (by kernel_rfl) (by kernel_rfl) (fun _ _ _ h => h) (Or.inl ⟨by rfl, ?hy⟩) hS ?_
  case hy => intro w' hSw; have c1 := C2.out w' hSw; go_simp; try with_reducible rfl
  simp only [List.getElem_toArray, List.getElem_cons_succ, List.getElem_cons_zero, Act.put, List.setIfInBounds_toArray, List.set_cons_zero, List.set_cons_succ]
  change wpAnyH _ _ _ _ _ 6 #[true, true, true, true, true, true, true, true, true, true, false, false, false, false, false, false] _ _
  refine wpAnyH_take (i := 10) (v := ?_) rfl (by kernel_rfl) (by kernel_rfl) (by kernel_rfl) (fun _ _ _ h => h) (Or.inl ⟨by rfl, ?hy⟩) hS ?_
  case hy => intro w' hSw; go_simp; try with_reducible rfl
  simp only [List.getElem_toArray, List.getElem_cons_succ, List.getElem_cons_zero, Act.put, List.setIfInBounds_toArray, List.set_cons_zero, List.set_cons_succ]
  change wpAnyH _ _ _ _ _ 5 #[true, true, true, true, true, true, true, true, true, true, true, false, false, false, false, false] _ _
  refine wpAnyH_ready (rs := [11]) (by kernel_rfl) (by simp) ?_
  refine AllReadyH.cons rfl (fun K hK => ?_) AllReadyH.nil
  rw [if_pos (by rfl)]
  go_simp
  refine (HC.out WD HRD.out (H7.out WD hS)).mono ?_
  rintro x w5 ⟨s5, c5, rfl, hB5, hP5, hb5⟩
  refine hK.out _ _ (hS.trans hb5) (fun hS5 => ?_)
  clear hK K
  simp only [List.getElem_toArray, List.getElem_cons_succ, List.getElem_cons_zero, Act.put, List.setIfInBounds_toArray, List.set_cons_zero, List.set_cons_succ]
  change wpAnyH _ _ _ _ _ 4 #[true, true, true, true, true, true, true, true, true, true, true, true, false, false, false, false] _ _
  refine wpAnyH_ready (rs := [12]) (by kernel_rfl) (by simp) ?_
  refine AllReadyH.cons rfl (fun K hK => ?_) AllReadyH.nil
  rw [if_pos (by rfl)]
  refine wp_conv (.tmp 135) HXN.out hB5 rfl rfl ?_
  refine hK.out _ _ (hS5) (fun hS6 => ?_)
  clear hK K
  simp only [List.getElem_toArray, List.getElem_cons_succ, List.getElem_cons_zero, Act.put, List.setIfInBounds_toArray, List.set_cons_zero, List.set_cons_succ]
  change wpAnyH _ _ _ _ _ 3 #[true, true, true, true, true, true, true, true, true, true, true, true, true, false, false, false] _ _
  refine wpAnyH_take (i := 13) rfl (by kernel_rfl) (by kernel_rfl) (by kernel_rfl) (fun _ _ _ h => h) (Or.inl ⟨by rfl, fun w' hSw => run_eqs1 X HXL.out _ (.tmp 128) (.tmp 136) _ _ rfl rfl rfl w'⟩) hS6 ?_
  simp only [List.getElem_toArray, List.getElem_cons_succ, List.getElem_cons_zero, Act.put, List.setIfInBounds_toArray, List.set_cons_zero, List.set_cons_succ]
  change wpAnyH _ _ _ _ _ 2 #[true, true, true, true, true, true, true, true, true, true, true, true, true, true, false, false] _ _
  refine wpAnyH_take (i := 14) (v := ?_) rfl (by kernel_rfl) (by kernel_rfl) (by kernel_rfl) (fun _ _ _ h => h) (Or.inl ⟨by rfl, ?hy⟩) hS6 ?_
  case hy => intro w' hSw; go_simp; try with_reducible rfl
  simp only [List.getElem_toArray, List.getElem_cons_succ, List.getElem_cons_zero, Act.put, List.setIfInBounds_toArray, List.set_cons_zero, List.set_cons_succ]
  change wpAnyH _ _ _ _ _ 1 #[true, true, true, true, true, true, true, true, true, true, true, true, true, true, true, false] _ _
  refine wpAnyH_take (i := 15) (v := ?_) rfl (by kernel_rfl) (by kernel_rfl) (by kernel_rfl) (fun _ _ _ h => h) (Or.inl ⟨by rfl, ?hy⟩) hS6 ?_
  case hy => intro w' hSw; go_simp; try with_reducible rfl
  simp only [List.getElem_toArray, List.getElem_cons_succ, List.getElem_cons_zero, Act.put, List.setIfInBounds_toArray, List.set_cons_zero, List.set_cons_succ]
  change wpAnyH _ _ _ _ _ 0 #[true, true, true, true, true, true, true, true, true, true, true, true, true, true, true, true] _ _
  refine wpAnyH_done (by kernel_rfl) ?_ _
  exact HQ.out s5 c5 w5 hP5 hS6
theorem rplain2_c {r : Nat} {key : List Nat} {L : MapM} {T : Option (Nat × Nat)} (hkl : key.length = 16 ∨ key.length = 32) (e b : Nat) (he : e < 18446744073709551616) (hb : b < 65536) (a : Option Addr) (cap : Nat) (p : List Nat) (hp : p.length = 256) (w : World)
    (hS : RSlr w r key L T) (hB : BytesAt w a cap p) :
    Calls Try.prog 19 #[.pointer (some ⟨r, 0, none⟩), .int .u64 (e : Int), .int .i64 (b : Int), .slice a 256 cap] w fun x w' =>
      ∃ s sc, x = .returned (.slice s 256 sc) ∧ BytesAt w' s sc (xorL p (strL key e b 256)) ∧ RSlr w' r key L T ∧ BtR r w w' := by
  refine (rplain_c hkl e b he hb a cap p hp w hS hB).mono ?_
  rintro x w' ⟨s, sc, h1, h2, h3⟩
  obtain ⟨_, _, _, _, _, _, _, hR⟩ := hS
  exact ⟨s, sc, h1, h2, ⟨_, _, _, _, _, _, _, hR.up h3⟩, BtR.below (Nat.le_of_lt (lt_of_block hR.blk)) h3⟩
def opsG26 : {o : Array Oper // some o = (Try.f6.body.bind (Fre.findR 26))} := ⟨_, rfl⟩
set_option maxRecDepth 100000 in
set_option maxHeartbeats 4000000 in
theorem regionG26 {u2 u3 u4 u6 u10 u11 u12 u13 u14 u15 u16 u17 u18 u19 u20 u21 u22 u23 u24 u25 u26 u27 u28 u29 u30 u31 u32 u33 u34 u35 u36 u37 u38 u39 u40 u41 u42 u43 u44 u45 u46 u47 u48 u49 u50 u51 u52 u53 u54 u55 u56 u57 u58 u59 u60 u61 u62 u63 u64 u65 u66 u67 u68 u69 u70 u71 u72 u73 u74 u75 u76 u77 u78 u79 u80 u81 u82 u83 u84 u85 u86 u87 u88 u89 u90 u91 u92 u93 u94 u95 u96 u97 u98 u99 u100 u101 u102 u103 u104 u105 u106 u107 u108 u109 u110 u111 u112 u113 u114 u115 u116 u117 u118 u119 u120 u121 u122 u123 u124 u125 u126 u127 u128 u129 u130 u131 u132 u133 u134 u135 u136 u137 u138 : Value} {s r bp : Nat} {a7 a8 : Option Addr} {c7 c8 : Nat} {key : List Nat} {L : MapM} {T : Option (Nat × Nat)} (hkl : key.length = 16 ∨ key.length = 32) (e bk : Nat) (he : e < 18446744073709551616) (hb : bk < 65536) (p : List Nat) (hp : p.length = 256) (hxl : ∀ x ∈ xorL p (strL key e bk 256), x < 256) (w0 : World) (hL : L.length ≤ 1000)
    {kd : Int} {v3 : Value} (hbp : w0.heap[bp]? = some (.cells #[.int .i64 kd, .int .u64 (e : Int), .int .i64 (bk : Int), v3] 37 (0, 0)))
    (h7 : BytesAt w0 a7 c7 p) (h8 : BytesAt w0 a8 c8 (xorL p (strL key e bk 256))) (hR : RSlr w0 r key L T) {QQ : Exit → Act → World → Prop}
    (hQ : ∀ s5 c5 w', RSlr w' r key L T → BtR r w0 w' → QQ .normal ⟨#[.pointer (some ⟨s, 0, none⟩), .pointer (some ⟨r, 0, none⟩), u2, u3, u4, .pointer (some ⟨bp, 0, none⟩), .bool true, .slice a7 256 c7, .slice a8 256 c8, .int .i64 0, u10, u11, u12, u13, u14, u15, u16, u17, u18, u19, u20, u21, u22, u23, u24, u25, u26, u27, u28, u29, u30, u31, u32, u33, u34, u35, u36, u37, u38, u39, u40, u41, u42, u43, u44, u45, u46, u47, u48, u49, u50, u51, u52, u53, u54, u55, u56, u57, u58, u59, u60, u61, u62, u63, u64, u65, u66, u67, u68, u69, u70, u71, u72, u73, u74, u75, u76, u77, u78, u79, u80, u81, u82, u83, u84, u85, u86, u87, u88, u89, u90, u91, u92, u93, u94, u95, u96, u97, u98, u99, u100, u101, u102, u103, u104, u105, u106, u107, u108, .int .i64 0, .bool true, .bool true, .slice a8 256 c8, strV (xorL p (strL key e bk 256)), .pointer (some ⟨r, 0, none⟩), .pointer (some ⟨bp, 1, none⟩), .int .u64 (e : Int), .pointer (some ⟨bp, 2, none⟩), .int .i64 (bk : Int), .slice a7 256 c7, .slice s5 256 c5, strV (xorL p (strL key e bk 256)), .bool true, .bool true, u124, u125, u126, u127, u128, u129, u130, u131, u132, u133, u134, u135, u136, u137, u138], []⟩ w') : (Code.region 26 opsG26.1 true).wp Try.prog QQ ⟨#[.pointer (some ⟨s, 0, none⟩), .pointer (some ⟨r, 0, none⟩), u2, u3, u4, .pointer (some ⟨bp, 0, none⟩), u6, .slice a7 256 c7, .slice a8 256 c8, .int .i64 0, u10, u11, u12, u13, u14, u15, u16, u17, u18, u19, u20, u21, u22, u23, u24, u25, u26, u27, u28, u29, u30, u31, u32, u33, u34, u35, u36, u37, u38, u39, u40, u41, u42, u43, u44, u45, u46, u47, u48, u49, u50, u51, u52, u53, u54, u55, u56, u57, u58, u59, u60, u61, u62, u63, u64, u65, u66, u67, u68, u69, u70, u71, u72, u73, u74, u75, u76, u77, u78, u79, u80, u81, u82, u83, u84, u85, u86, u87, u88, u89, u90, u91, u92, u93, u94, u95, u96, u97, u98, u99, u100, u101, u102, u103, u104, u105, u106, u107, u108, u109, u110, u111, u112, u113, u114, u115, u116, u117, u118, u119, u120, u121, u122, u123, u124, u125, u126, u127, u128, u129, u130, u131, u132, u133, u134, u135, u136, u137, u138], []⟩ w0 := by
  have hxn : (xorL p (strL key e bk 256)).length = 256 := by rw [xorL_len]; exact hp
  have n7 := bytes_ner hR hp h7
  have n8 := bytes_ner hR hxn h8
  have hbr : bp ≠ r := by
    obtain ⟨_, _, _, _, _, _, _, hR⟩ := hR
    rintro rfl; have := hR.blk; rw [hbp] at this; cases this
  obtain ⟨X, hX⟩ : ∃ X, X = xorL p (strL key e bk 256) := ⟨_, rfl⟩
  have hbl := lt_of_block hbp
  have hrl : r < w0.heap.size := by obtain ⟨_, _, _, _, _, _, _, hR⟩ := hR; exact lt_of_block hR.blk
  have C1 : Hid (∀ w', BtR r w0 w' → w'.cell? ⟨bp, 1, none⟩ = some (.int .u64 (e : Int))) := fun w' h => (cells_at ((h.2 bp hbl hbr).trans hbp) 1).trans rfl
  have C2 : Hid (∀ w', BtR r w0 w' → w'.cell? ⟨bp, 2, none⟩ = some (.int .i64 (bk : Int))) := fun w' h => (cells_at ((h.2 bp hbl hbr).trans hbp) 2).trans rfl
  have HC := Lib.hid (fun (w : World) (hR : RSlr w r key L T) (hB : BytesAt w a7 c7 p) => rplain2_c hkl e bk he hb a7 c7 p hp w hR hB)
  rw [← hX] at hxl hxn h8 HC hQ
  have H7 : Hid (∀ w', BtR r w0 w' → BytesAt w' a7 c7 p) := fun w' h => bytes_btr h7 h n7
  have H8 : Hid (∀ w', BtR r w0 w' → BytesAt w' a8 c8 X) := fun w' h => bytes_btr h8 h n8
  have HR := Lib.hid hR
  have HXL := Lib.hid hxl
  have HXN := Lib.hid hxn
  have HQ := Lib.hid hQ
  have HRL := Lib.hid hrl
  clear hX hxl hxn h7 h8 hR hQ hbp n7 n8 hbr hbl hrl hp he hb hkl hL
  refine Code.wp_mono (Q := OnlyG fun a w => QQ .normal a w) (fun x a w h => by cases x <;> first | exact h | exact h.elim) ?_
  refine wp_region_held_drew (S := fun w' => BtR r w0 w') (by kernel_rfl) ⟨(Below.refl _ _).drew, fun _ _ _ => rfl⟩ ?_
  intro hS
  have HRD : Hid (RSlr w0.drew r key L T) := by
    obtain ⟨_, _, _, _, _, _, _, hR⟩ := HR.out
    exact ⟨_, _, _, _, _, _, _, hR.up (Below.refl _ _).drew⟩
  generalize w0.drew = WD at hS HRD ⊢
  simp only [opsG26]
  change wpAnyH _ _ _ _ _ 16 #[false, false, false, false, false, false, false, false, false, false, false, false, false, false, false, false] _ _
  refine wpAnyH_take (i := 0) (v := ?_) rfl (by kernel_rfl) (by kernel_rfl) (by kernel_rfl) (fun _ _ _ h => h) (Or.inl ⟨by rfl, ?hy⟩) hS ?_
  case hy => intro w' hSw; go_simp; try with_reducible rfl
  simp only [List.getElem_toArray, List.getElem_cons_succ, List.getElem_cons_zero, Act.put, List.setIfInBounds_toArray, List.set_cons_zero, List.set_cons_succ]
  change wpAnyH _ _ _ _ _ 15 #[true, false, false, false, false, false, false, false, false, false, false, false, false, false, false, false] _ _
  refine wpAnyH_take (i := 1) (v := ?_) rfl (by kernel_rfl) (by kernel_rfl) (by kernel_rfl) (fun _ _ _ h => h) (Or.inl ⟨by rfl, ?hy⟩) hS ?_
  case hy => intro w' hSw; go_simp; try with_reducible rfl
  simp only [List.getElem_toArray, List.getElem_cons_succ, List.getElem_cons_zero, Act.put, List.setIfInBounds_toArray, List.set_cons_zero, List.set_cons_succ]
  change wpAnyH _ _ _ _ _ 14 #[true, true, false, false, false, false, false, false, false, false, false, false, false, false, false, false] _ _
  refine wpAnyH_take (i := 2) (v := ?_) rfl (by kernel_rfl) (by kernel_rfl) (by kernel_rfl) (fun _ _ _ h => h) (Or.inl ⟨by rfl, ?hy⟩) hS ?_
  case hy => intro w' hSw; go_simp; try with_reducible rfl
  simp only [List.getElem_toArray, List.getElem_cons_succ, List.getElem_cons_zero, Act.put, List.setIfInBounds_toArray, List.set_cons_zero, List.set_cons_succ]
  change wpAnyH _ _ _ _ _ 13 #[true, true, true, false, false, false, false, false, false, false, false, false, false, false, false, false] _ _
  refine wpAnyH_take (i := 3) (v := ?_) rfl (by kernel_rfl) (by kernel_rfl) (by kernel_rfl) (fun _ _ _ h => h) (Or.inl ⟨by rfl, ?hy⟩) hS ?_
  case hy => intro w' hSw; go_simp; try with_reducible rfl
  simp only [List.getElem_toArray, List.getElem_cons_succ, List.getElem_cons_zero, Act.put, List.setIfInBounds_toArray, List.set_cons_zero, List.set_cons_succ]
  change wpAnyH _ _ _ _ _ 12 #[true, true, true, true, false, false, false, false, false, false, false, false, false, false, false, false] _ _
  refine wpAnyH_take (i := 4) rfl (by kernel_rfl) (by kernel_rfl) (by kernel_rfl) (fun _ _ _ h => h) (Or.inl ⟨by rfl, fun w' hSw => run_conv_op HXN.out (H8.out w' hSw) _ (.tmp 112) _ rfl rfl⟩) hS ?_
  simp only [List.getElem_toArray, List.getElem_cons_succ, List.getElem_cons_zero, Act.put, List.setIfInBounds_toArray, List.set_cons_zero, List.set_cons_succ]
  change wpAnyH _ _ _ _ _ 11 #[true, true, true, true, true, false, false, false, false, false, false, false, false, false, false, false] _ _
  refine wpAnyH_take (i := 5) (v := ?_) rfl (by kernel_rfl) (by kernel_rfl) (by kernel_rfl) (fun _ _ _ h => h) (Or.inl ⟨by rfl, ?hy⟩) hS ?_
  case hy => intro w' hSw; go_simp; try with_reducible rfl
  simp only [List.getElem_toArray, List.getElem_cons_succ, List.getElem_cons_zero, Act.put, List.setIfInBounds_toArray, List.set_cons_zero, List.set_cons_succ]
  change wpAnyH _ _ _ _ _ 10 #[true, true, true, true, true, true, false, false, false, false, false, false, false, false, false, false] _ _
  refine wpAnyH_take (i := 6) (v := ?_) rfl (by kernel_rfl) (by kernel_rfl) (by kernel_rfl) (fun _ _ _ h => h) (Or.inl ⟨by rfl, ?hy⟩) hS ?_
  case hy => intro w' hSw; go_simp; try with_reducible rfl
  simp only [List.getElem_toArray, List.getElem_cons_succ, List.getElem_cons_zero, Act.put, List.setIfInBounds_toArray, List.set_cons_zero, List.set_cons_succ]
  change wpAnyH _ _ _ _ _ 9 #[true, true, true, true, true, true, true, false, false, false, false, false, false, false, false, false] _ _
  refine wpAnyH_take (i := 7) (v := ?_) rfl (by kernel_rfl) (by kernel_rfl) (by kernel_rfl) (fun _ _ _ h => h) (Or.inl ⟨by rfl, ?hy⟩) hS ?_
  case hy => intro w' hSw; have c1 := C1.out w' hSw; go_simp; try with_reducible rfl
  simp only [List.getElem_toArray, List.getElem_cons_succ, List.getElem_cons_zero, Act.put, List.setIfInBounds_toArray, List.set_cons_zero, List.set_cons_succ]
  change wpAnyH _ _ _ _ _ 8 #[true, true, true, true, true, true, true, true, false, false, false, false, false, false, false, false] _ _
  refine wpAnyH_take (i := 8) (v := ?_) rfl (by kernel_rfl) (by kernel_rfl) (by kernel_rfl) (fun _ _ _ h => h) (Or.inl ⟨by rfl, ?hy⟩) hS ?_
  case hy => intro w' hSw; go_simp; try with_reducible rfl
  simp only [List.getElem_toArray, List.getElem_cons_succ, List.getElem_cons_zero, Act.put, List.setIfInBounds_toArray, List.set_cons_zero, List.set_cons_succ]
  change wpAnyH _ _ _ _ _ 7 #[true, true, true, true, true, true, true, true, true, false, false, false, false, false, false, false] _ _
  refine wpAnyH_take (i := 9) (v := ?_) rfl (by kernel_rfl) (by kernel_rfl) (by kernel_rfl) (fun _ _ _ h => h) (Or.inl ⟨by rfl, ?hy⟩) hS ?_
  case hy => intro w' hSw; have c1 := C2.out w' hSw; go_simp; try with_reducible rfl
  simp only [List.getElem_toArray, List.getElem_cons_succ, List.getElem_cons_zero, Act.put, List.setIfInBounds_toArray, List.set_cons_zero, List.set_cons_succ]
  change wpAnyH _ _ _ _ _ 6 #[true, true, true, true, true, true, true, true, true, true, false, false, false, false, false, false] _ _
  refine wpAnyH_take (i := 10) (v := ?_) rfl (by kernel_rfl) (by kernel_rfl) (by kernel_rfl) (fun _ _ _ h => h) (Or.inl ⟨by rfl, ?hy⟩) hS ?_
  case hy => intro w' hSw; go_simp; try with_reducible rfl
  simp only [List.getElem_toArray, List.getElem_cons_succ, List.getElem_cons_zero, Act.put, List.setIfInBounds_toArray, List.set_cons_zero, List.set_cons_succ]
  change wpAnyH _ _ _ _ _ 5 #[true, true, true, true, true, true, true, true, true, true, true, false, false, false, false, false] _ _
  refine wpAnyH_ready (rs := [11]) (by kernel_rfl) (by simp) ?_
  refine AllReadyH.cons rfl (fun K hK => ?_) AllReadyH.nil
  rw [if_pos (by rfl)]
  go_simp
  refine (HC.out WD HRD.out (H7.out WD hS)).mono ?_
  rintro x w5 ⟨s5, c5, rfl, hB5, hP5, hb5⟩
  refine hK.out _ _ (hS.trans hb5) (fun hS5 => ?_)
  clear hK K
  simp only [List.getElem_toArray, List.getElem_cons_succ, List.getElem_cons_zero, Act.put, List.setIfInBounds_toArray, List.set_cons_zero, List.set_cons_succ]
  change wpAnyH _ _ _ _ _ 4 #[true, true, true, true, true, true, true, true, true, true, true, true, false, false, false, false] _ _
  refine wpAnyH_ready (rs := [12]) (by kernel_rfl) (by simp) ?_
  refine AllReadyH.cons rfl (fun K hK => ?_) AllReadyH.nil
  rw [if_pos (by rfl)]
  refine wp_conv (.tmp 120) HXN.out hB5 rfl rfl ?_
  refine hK.out _ _ (hS5) (fun hS6 => ?_)
  clear hK K
  simp only [List.getElem_toArray, List.getElem_cons_succ, List.getElem_cons_zero, Act.put, List.setIfInBounds_toArray, List.set_cons_zero, List.set_cons_succ]
  change wpAnyH _ _ _ _ _ 3 #[true, true, true, true, true, true, true, true, true, true, true, true, true, false, false, false] _ _
  refine wpAnyH_take (i := 13) rfl (by kernel_rfl) (by kernel_rfl) (by kernel_rfl) (fun _ _ _ h => h) (Or.inl ⟨by rfl, fun w' hSw => run_eqs1 X HXL.out _ (.tmp 113) (.tmp 121) _ _ rfl rfl rfl w'⟩) hS6 ?_
  simp only [List.getElem_toArray, List.getElem_cons_succ, List.getElem_cons_zero, Act.put, List.setIfInBounds_toArray, List.set_cons_zero, List.set_cons_succ]
  change wpAnyH _ _ _ _ _ 2 #[true, true, true, true, true, true, true, true, true, true, true, true, true, true, false, false] _ _
  refine wpAnyH_take (i := 14) (v := ?_) rfl (by kernel_rfl) (by kernel_rfl) (by kernel_rfl) (fun _ _ _ h => h) (Or.inl ⟨by rfl, ?hy⟩) hS6 ?_
  case hy => intro w' hSw; go_simp; try with_reducible rfl
  simp only [List.getElem_toArray, List.getElem_cons_succ, List.getElem_cons_zero, Act.put, List.setIfInBounds_toArray, List.set_cons_zero, List.set_cons_succ]
  change wpAnyH _ _ _ _ _ 1 #[true, true, true, true, true, true, true, true, true, true, true, true, true, true, true, false] _ _
  refine wpAnyH_take (i := 15) (v := ?_) rfl (by kernel_rfl) (by kernel_rfl) (by kernel_rfl) (fun _ _ _ h => h) (Or.inl ⟨by rfl, ?hy⟩) hS6 ?_
  case hy => intro w' hSw; go_simp; try with_reducible rfl
  simp only [List.getElem_toArray, List.getElem_cons_succ, List.getElem_cons_zero, Act.put, List.setIfInBounds_toArray, List.set_cons_zero, List.set_cons_succ]
  change wpAnyH _ _ _ _ _ 0 #[true, true, true, true, true, true, true, true, true, true, true, true, true, true, true, true] _ _
  refine wpAnyH_done (by kernel_rfl) ?_ _
  exact HQ.out s5 c5 w5 hP5 hS6
end Go.Proofs.Ytinjafacnekkcaa
